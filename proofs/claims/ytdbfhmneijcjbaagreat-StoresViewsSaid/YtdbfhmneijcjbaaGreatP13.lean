/- An evaluator of the program, and contracts over it: StbZe to StbZl. -/
import Derived.Test.YtdbfhmneijcjbaaGreatP09
import Derived.Test.YtdbfhmneijcjbaaGreatP12
set_option linter.unusedSimpArgs false
set_option linter.unusedVariables false
set_option linter.constructorNameAsVariable false
set_option linter.unnecessarySimpa false
namespace Go.Ev.Lay
open Go.Ev.St
set_option maxRecDepth 4000
theorem DP(a b:Str):aP (.seq true [2,2]) [.agg [.str a,.str b],.agg [.str a,.str b]]=some (.bool false):=by
 simp[aP,fS]
theorem FO{h:Heap}{va vb:V}{L:List (Str×Str)}(a:Recs dU 2 h va L)(b:Recs dU 2 h vb L)(hn:L.length≤4096):ao go 143 [va,vb] h fun u h'=>u=.bool true∧h=h':=by
 refine ah rfl rfl ?_;simp only[fn143,evs,seval,a.len,b.len];refine aC (fun n env hh=>h=hh∧∃i:Nat,env.get 13=some (.int .i64 i)∧env.get 12=some (.int .i64 L.length)∧env.get 0=some va∧env.get 1=some vb∧i≤L.length∧n=L.length-i) L.length (by omega) ?_ ?_
 ·exact⟨rfl,0,(by simp),(by simp),(by simp),(by simp),by omega,rfl⟩
 ·rintro n env hh ⟨rfl,i,g13,g12,g0,g1,hi,rfl⟩;by_cases c:i<L.length
  ·obtain⟨b1,o1,s1,p1,_,p3,p4⟩:=a.ix cM .i64 (i:Int) (by omega) (by omega);obtain⟨b2,o2,s2,q1,_,q3,q4⟩:=b.ix cM .i64 (i:Int) (by omega) (by omega);rw[p4]at q4;cases q4;have x1:ak h b1 o1 2=some [.str s1.1,.str s1.2]:=p3;have x2:ak h b2 o2 2=some [.str s1.1,.str s1.2]:=q3;simp(disch:=omega) only[evs,seval,DF,eff,ai,g13,g12,g0,g1,show(i:Int)<L.length by omega,p1,q1,x1,x2,DP];refine(aj _ _ _).2 ⟨L.length-(i+1),by omega,rfl,i+1,(by simp),(by simp[g12]),(by simp[g0]),(by simp[g1]),by omega,rfl⟩
  ·simp only[evs,seval,g13,g12,show¬(i:Int)<L.length by omega]
def ST.at'':ST→Nat→ST
 |t,0=>t
 |.nil,_+1=>.nil
 |.cons _ _ _ _ _ _ nx,i+1=>nx.at'' i
theorem NT.sh_at:∀(t:NT)(i:Nat),(t.at' i).sh=t.sh.at'' i
 |.nil,0=>rfl
 |.nil,_+1=>rfl
 |.cons _ _ _ _ _ _ _ _ _,0=>rfl
 |.cons _ _ _ _ _ _ _ _ nx,i+1=>NT.sh_at nx i
def SN(k:Nat)(tg ky:Str)(at':List (Str×Str))(tx:Str)(sub:NT):Prop:=∀(h:Heap)(va vc va' vc':V)(sub':NT),WF h→sub'.sh=sub.sh→NH h (.cons k tg ky at' tx va vc sub .nil)→NH h (.cons k tg ky at' tx va' vc' sub' .nil)→
 ao go 75 [.agg [.int .u8 (k:Int),.str tg,.str ky,va,.str tx,vc],.agg [.int .u8 (k:Int),.str tg,.str ky,va',.str tx,vc']] h fun u h'=>u=.bool true∧Fr [] h h'
def SNs:NT→Prop
 |.nil=>True
 |.cons k tg ky at' tx _ _ sub nx=>SN k tg ky at' tx sub∧SNs nx
theorem SNs.at':∀{t:NT}(i:Nat),SNs t→SNs (t.at' i)
 |.nil,0,_=>trivial
 |.nil,_+1,_=>trivial
 |.cons _ _ _ _ _ _ _ _ _,0,a=>a
 |.cons _ _ _ _ _ _ _ _ _,i+1,⟨_,b⟩=>SNs.at' i b
theorem FK{h:Heap}{a b:NT}{va vb:V}(w:WF h)(e:b.sh=a.sh)(M:SNs a)(ra:Sl h 6 va a.len a.cells)(rb:Sl h 6 vb b.len b.cells)(na:NH h a)(nb:NH h b)(hn:a.len≤4096):
 ao go 144 [va,vb,.func (.func 75) [] []] h fun u h'=>u=.bool true∧Fr [] h h':=by
 have le:b.len=a.len:=by rw[←NT.sh_len,←NT.sh_len,e]
 have lb:=rb.len;rw[le]at lb;refine ah rfl rfl ?_;simp only[fn144,evs,seval,ra.len,lb];refine aC (fun n env hh=>Fr [] h hh∧∃i:Nat,env.get 17=some (.int .i64 i)∧env.get 16=some (.int .i64 a.len)∧env.get 15=some va∧env.get 1=some vb∧env.get 2=some (.func (.func 75) [] [])∧i≤a.len∧n=a.len-i) a.len (by omega) ?_ ?_
 ·exact⟨Fr.refl w,0,(by simp),(by simp),(by simp),(by simp),(by simp),by omega,rfl⟩
 ·rintro n env hh ⟨F,i,g17,g16,g15,g1,g2,hi,rfl⟩;by_cases c:i<a.len
  ·obtain⟨k,tg,ky,at',tx,wa,wc,sub,nx,e1,e2,_⟩:=a.split i c;obtain⟨k',tg',ky',at'',tx',wa',wc',sub',nx',f1,f2,_⟩:=b.split i (by omega);have es:(b.at' i).sh=(a.at' i).sh:=by rw[NT.sh_at,NT.sh_at,e]
   rw[e1,f1]at es;simp only[NT.sh,ST.cons.injEq]at es;obtain⟨rfl,rfl,rfl,rfl,rfl,es,_⟩:=es;have n1:=NH.at' i na;have n2:=NH.at' i nb;rw[e1]at n1;rw[f1]at n2;obtain⟨m1,m2,m3,m4,m5,m6,_⟩:=n1;obtain⟨k1,k2,k3,k4,k5,k6,_⟩:=n2;have o1:aq [.int .u8 ((k':Nat):Int),.str tg',.str ky',wa,.str tx',wc]=true:=by simp only[aA,aF,Sl.one m2,Sl.one m4];rfl
   have o2:aq [.int .u8 ((k':Nat):Int),.str tg',.str ky',wa',.str tx',wc']=true:=by simp only[aA,aF,Sl.one k2,Sl.one k4];rfl
   obtain⟨b1,o1',p1,p2⟩:=(ra.fr F).ix6 c e2;obtain⟨h3,e_h3⟩:∃h3,h3=halloc hh [.int .u8 0,.str [],.str [],.nils,.str [],.nils]:=⟨_,rfl⟩;have F_h3:Fr [] hh h3:=e_h3▸Fr.halloc F.wf _;have o_h3:Own h3 hh.next [.int .u8 0,.str [],.str [],.nils,.str [],.nils]:=e_h3▸Own.new F.wf _;simp only[evs,seval,g17,g16,g15,show(i:Int)<a.len by omega,p1,p2.2.2.2.2.2.2,←e_h3];refine ab (c':=[.int .u8 ((k':Nat):Int),.str tg',.str ky',wa,.str tx',wc]) F_h3.wf o_h3 rfl o1 rfl ?_;rintro h4 o4 F4 n4;have F04:Fr [] hh h4:=F_h3.fresh F4 F.wf (Nat.le_refl _);obtain⟨b2,o2',q1,q2⟩:=(rb.fr (F.then F04)).ix6 (by omega) f2;obtain⟨h5,e_h5⟩:∃h5,h5=halloc h4 [.int .u8 0,.str [],.str [],.nils,.str [],.nils]:=⟨_,rfl⟩;have F_h5:Fr [] h4 h5:=e_h5▸Fr.halloc F4.wf _;have o_h5:Own h5 h4.next [.int .u8 0,.str [],.str [],.nils,.str [],.nils]:=e_h5▸Own.new F4.wf _;simp only[evs,seval,g1,q1,q2.2.2.2.2.2.2,←e_h5];refine ab (c':=[.int .u8 ((k':Nat):Int),.str tg',.str ky',wa',.str tx',wc']) F_h5.wf o_h5 rfl o2 rfl ?_;rintro h6 o6 F6 n6;have F46:Fr [] h4 h6:=F_h5.fresh F6 F4.wf (Nat.le_refl _);have lz:=(F46.get o4).at6.2.2.2.2.2.2;have le':=o6.at6.2.2.2.2.2.2;have big:75<1099511627776:=by omega
   have F06:=F.then (F04.then F46);have sn:=SNs.at' i M;rw[e1]at sn;simp only[evs,seval,g2,lz,le',big];refine aa (sn.1 h6 wa wc wa' wc' sub' F6.wf es (NH.fr F06 ⟨m1,m2,m3,m4,m5,m6,trivial⟩) (NH.fr F06 ⟨k1,k2,k3,k4,k5,k6,trivial⟩)) ?_;rintro _ h7 ⟨rfl,F7⟩;simp(disch:=omega) only[evs,seval,ai,g17];refine(aj _ _ _).2 ⟨a.len-(i+1),by omega,F06.then F7,i+1,(by simp),(by simp[g16]),(by simp[g15]),(by simp[g1]),(by simp[g2]),by omega,rfl⟩
  ·simp only[evs,seval,g17,g16,show¬(i:Int)<a.len by omega];exact F
theorem Eg{k:Nat}{tg ky tx:Str}{at':List (Str×Str)}{sub:NT}(M:SNs sub):SN k tg ky at' tx sub:=by
 intro h va vc va' vc' sub' w es ⟨m1,m2,m3,m4,m5,m6,_⟩ ⟨k1,k2,k3,k4,k5,k6,_⟩;have v1:=Sl.one m2;have v2:=Sl.one m4;have v3:=Sl.one k2;have v4:=Sl.one k4;obtain⟨h1,e_h1⟩:∃h1,h1=halloc h [.int .u8 (k:Int),.str tg,.str ky,va,.str tx,vc]:=⟨_,rfl⟩;have F_h1:Fr [] h h1:=e_h1▸Fr.halloc w _;have o_h1:Own h1 h.next [.int .u8 (k:Int),.str tg,.str ky,va,.str tx,vc]:=e_h1▸Own.new w _;obtain⟨h2,e_h2⟩:∃h2,h2=halloc h1 [.int .u8 (k:Int),.str tg,.str ky,va',.str tx,vc']:=⟨_,rfl⟩;have F_h2:Fr [] h1 h2:=e_h2▸Fr.halloc F_h1.wf _;have o_h2:Own h2 h1.next [.int .u8 (k:Int),.str tg,.str ky,va',.str tx,vc']:=e_h2▸Own.new F_h1.wf _;have F:=F_h1.then F_h2;obtain⟨x0,x1,x2,x3,x4,x5,_⟩:=(F_h2.get o_h1).at6;obtain⟨y0,y1,y2,y3,y4,y5,_⟩:=o_h2.at6;refine ah rfl rfl ?_;simp only[fn75,evs,seval,←e_h1,←e_h2,x0,x1,x2,x3,x4,y0,y1,y2,y3,y4,aI,beq_self_eq_true];refine aa (FO (m2.fr F) (k2.fr F) m3) ?_;rintro _ _ ⟨rfl,rfl⟩;simp only[evs,seval,x5,y5];refine aa (FK F_h2.wf es M (m4.fr F) (k4.fr F) (NH.fr F m6) (NH.fr F k6) m5) ?_;rintro _ h3 ⟨rfl,F3⟩;simp only[evs,seval];exact F.then F3
theorem sns:∀t:NT,SNs t
 |.nil=>trivial
 |.cons _ _ _ _ _ _ _ sub nx=>⟨Eg (sns sub),sns nx⟩
theorem AO{h:Heap}{k:Nat}{tg ky tx:Str}{at':List (Str×Str)}{va vc va' vc':V}{sub sub':NT}(w:WF h)(es:sub'.sh=sub.sh)(n:NH h (.cons k tg ky at' tx va vc sub .nil))(n':NH h (.cons k tg ky at' tx va' vc' sub' .nil))(ok:ST.count k tg ky at' tx sub.sh≠0):
 ao go 29 [.agg [.int .u8 (k:Int),.str tg,.str ky,va,.str tx,vc],.agg [.int .u8 (k:Int),.str tg,.str ky,va',.str tx,vc']] h fun u h'=>u=.bool true∧Fr [] h h':=by
 have c1:¬NT.count k tg ky at' tx sub=0:=by rw[←NT.sh_count];exact ok
 have c2:¬NT.count k tg ky at' tx sub'=0:=by rw[←NT.sh_count,es];exact ok
 obtain⟨h1,e_h1⟩:∃h1,h1=halloc h [.int .u8 (k:Int),.str tg,.str ky,va,.str tx,vc]:=⟨_,rfl⟩;have F_h1:Fr [] h h1:=e_h1▸Fr.halloc w _;have o_h1:Own h1 h.next [.int .u8 (k:Int),.str tg,.str ky,va,.str tx,vc]:=e_h1▸Own.new w _;obtain⟨h2,e_h2⟩:∃h2,h2=halloc h1 [.int .u8 (k:Int),.str tg,.str ky,va',.str tx,vc']:=⟨_,rfl⟩;have F_h2:Fr [] h1 h2:=e_h2▸Fr.halloc F_h1.wf _;have o_h2:Own h2 h1.next [.int .u8 (k:Int),.str tg,.str ky,va',.str tx,vc']:=e_h2▸Own.new F_h1.wf _;have F:=F_h1.then F_h2;have x6:=(F_h2.get o_h1).at6.2.2.2.2.2.2;have y6:=o_h2.at6.2.2.2.2.2.2;refine ah rfl rfl ?_;simp only[fn29,evs,seval,←e_h1,←e_h2,x6];refine aa (i7 F_h2.wf (NH.fr F n)) ?_;rintro _ h3 ⟨rfl,F3⟩;have y63:=(F3.get o_h2).at6.2.2.2.2.2.2;rw[if_neg c1];simp only[evs,seval,y63];refine aa (i7 F3.wf (NH.fr (F.then F3) n')) ?_;rintro _ h4 ⟨rfl,F4⟩;have x64:=(F4.get (F3.get (F_h2.get o_h1))).at6.2.2.2.2.2.2;have y64:=(F4.get (F3.get o_h2)).at6.2.2.2.2.2.2;have F04:=F.then (F3.then F4);rw[if_neg c2];simp only[evs,seval,x64,y64];refine aa (Eg (sns sub) h4 va vc va' vc' sub' F4.wf es (NH.fr F04 n) (NH.fr F04 n')) ?_;rintro _ h5 ⟨rfl,F5⟩;simp only[evs,seval];exact F04.then F5
abbrev Z4':List V:=[.int .u64 0,.int .u8 0,.str [],.nils]
theorem Dp{h:Heap}{b B n:Nat}{l:List V}{i:Int}(w:WF h)(k:Gp h b B n l)(hi:¬(0≤i∧i<n)):ao go 70 [.ptr b 0,.int .i64 i] h fun u h'=>Fr [] h h'∧u=.tup [.agg Z4',.int .i64 4]:=by
 obtain⟨v,c1,G,c2,a,g,m,k,rfl,rfl⟩:=k;obtain⟨h1,e_h1⟩:∃h1,h1=halloc h Z4':=⟨_,rfl⟩;have F_h1:Fr [] h h1:=e_h1▸Fr.halloc w _;have o_h1:Own h1 h.next Z4':=e_h1▸Own.new w _;have k1:=k.fr F_h1 (by simp) (by simp);have n1:h1.next=h.next+1:=by rw[e_h1];rfl
 refine ah rfl rfl ?_;simp only[fn70,evs,seval,←e_h1];refine aa (ga k1 i 1) ?_;rintro _ _ ⟨rfl,rfl⟩;simp only[evs,seval,eff,A8 hi];obtain⟨h2,e_h2⟩:∃h2,h2=halloc h1 Z4':=⟨_,rfl⟩;have F_h2:Fr [] h1 h2:=e_h2▸Fr.halloc F_h1.wf _;have o_h2:Own h2 h1.next Z4':=e_h2▸Own.new F_h1.wf _;have l2:ak h2 h1.next 0 4=some Z4':=by rw[o_h2.ld];rfl
 simp only[evs,seval,←e_h2,l2];refine ab (c':=Z4') F_h2.wf (F_h2.get o_h1) rfl rfl rfl ?_;rintro h3 o3 F3 n3;have l3:ak h3 h.next 0 4=some Z4':=by rw[o3.ld];rfl
 simp only[evs,seval,l3];exact(F_h1.then F_h2).fresh F3 w (Nat.le_refl _)
section
variable {n0 : Nat} {h : Heap} {b bg B bm S bl : Nat} {Ks : List Knd} {cap : Int} {X : List Itm} {l : List Int} {kn st : List Bool} {vK : V} {pm : Option Nat} {mc : ew}
theorem tO{i:Int}(w:WF h)(s:Sto n0 h b Ks cap X l kn st vK bg B bm S bl pm mc)(nz:∀x∈X,nZ x.vm=true):ao go 26 [.ptr b 0,.int .i64 i] h fun u h'=>Fr [] h h'∧
 (¬(0≤i∧i<X.length)→u=.tup [.agg Z4',.int .i64 4])∧(∀x,0≤i→X[i.toNat]? =some x→∃v,u=.tup [.agg (x.own v).cells,.int .i64 0]∧CpO h.next h' v x.marks):=by
 obtain⟨h1,e_h1⟩:∃h1,h1=halloc h Z4':=⟨_,rfl⟩;have F_h1:Fr [] h h1:=e_h1▸Fr.halloc w _;have o_h1:Own h1 h.next Z4':=e_h1▸Own.new w _;have n1:h1.next=h.next+1:=by rw[e_h1];rfl
 have s1:=s.fr w F_h1;have l2:ag h1 b 2=some (.ptr bg 0):=s1.ob.ld1 2;refine ah rfl rfl ?_;simp only[fn26,evs,seval,←e_h1];refine aa (iZ s1) ?_;rintro _ _ ⟨rfl,rfl⟩;simp only[evs,seval,l2];by_cases c:0≤i∧i<X.length
 ·obtain⟨j,rfl⟩:∃j:Nat,i=j:=⟨i.toNat,by omega⟩;have p:X[j]? =some X[j]:=List.getElem?_eq_getElem (by omega);generalize X[j]=x at p;have xm:=List.mem_of_getElem? p;have ax:=(s1.rd [] h1 (by simp) (Fr.refl F_h1.wf)).2.2 x xm;obtain⟨v,c1,G,c2,a,g,m,k,ec,en⟩:=s1.g;refine aa (Bc F_h1.wf k (i:=j) (by omega)) ?_;rintro _ h2 ⟨F2,rfl⟩;rw[←ec,wj p];obtain⟨h3,e_h3⟩:∃h3,h3=halloc h2 Z4':=⟨_,rfl⟩;have F_h3:Fr [] h2 h3:=e_h3▸Fr.halloc F2.wf _;have o_h3:Own h3 h2.next Z4':=e_h3▸Own.new F2.wf _;have n2:=F2.next;have n3:h3.next=h2.next+1:=by rw[e_h3];rfl
  simp only[evs,seval,←e_h3];refine ab (c':=x.cells) F_h3.wf o_h3 rfl ax.one rfl ?_;rintro h4 o4 F4 n4;have F24:Fr [] h2 h4:=F_h3.fresh F4 F2.wf (Nat.le_refl _);have l4:ak h4 h2.next 0 4=some x.cells:=by rw[o4.ld];rfl
  simp only[evs,seval,l4];refine aa (j7 F4.wf (ax.fr (F2.then F24)) (nz x xm)) ?_;rintro _ h5 ⟨vy,rfl,F5,cpo⟩;have v1:=cpo.one;have n5:=F5.next;have on:aq (x.own vy).cells=true:=by rw[dY];simp only[aA,aF,v1];rfl
  simp only[evs,seval];refine ab (c':=(x.own vy).cells) F5.wf (F5.get (F24.get (F2.get o_h1))) rfl on rfl ?_;rintro h6 o6 F6 n6;have l6:ak h6 h.next 0 4=some (x.own vy).cells:=by rw[o6.ld];rfl
  simp only[evs,seval,l6];refine⟨(F_h1.then (F2.then (F24.then F5))).fresh F6 w (Nat.le_refl _),fun e=>absurd c e,fun x' _ e=>?_⟩;rw[Int.toNat_natCast,p]at e;cases e;exact⟨vy,rfl,(cpo.fr F6 (by simp;omega)).le (by omega)⟩
 ·refine aa (Dp F_h1.wf s1.g c) ?_;rintro _ h2 ⟨F2,rfl⟩;obtain⟨h3,e_h3⟩:∃h3,h3=halloc h2 Z4':=⟨_,rfl⟩;have F_h3:Fr [] h2 h3:=e_h3▸Fr.halloc F2.wf _;have o_h3:Own h3 h2.next Z4':=e_h3▸Own.new F2.wf _;simp only[evs,seval,←e_h3];refine ab (c':=Z4') F_h3.wf o_h3 rfl rfl rfl ?_;rintro h4 o4 F4 n4;have F24:Fr [] h2 h4:=F_h3.fresh F4 F2.wf (Nat.le_refl _);simp only[evs,seval];refine ab (c':=Z4') F4.wf (F24.get (F2.get o_h1)) rfl rfl rfl ?_;rintro h6 o6 F6 n6;have l6:ak h6 h.next 0 4=some Z4':=by rw[o6.ld];rfl
  simp only[evs,seval,l6];refine⟨(F_h1.then (F2.then F24)).fresh F6 w (Nat.le_refl _),fun _=>trivial,fun x' h0 e=>?_⟩;have:=(List.getElem?_eq_some_iff.1 e).1;omega
theorem tM{i:Int}(w:WF h)(s:Sto n0 h b Ks cap X l kn st vK bg B bm S bl pm mc)(nz:∀x∈X,nZ x.vm=true)(ht:∀x∈X,x.type<Ks.length):ao go 27 [.ptr b 0,.int .i64 i] h fun u h'=>Fr [] h h'∧
 (¬(0≤i∧i<X.length)→u=.tup [.agg Z6,.int .i64 4])∧(∀x,0≤i→X[i.toNat]? =some x→∃(y:Itm)(cs:List V),y.val=x.val∧u=.tup [.agg cs,.int .i64 (bQ Ks cap y)]∧aq cs=true∧cs.length=6∧(bQ Ks cap y=0→TreeS h.next h' Ks y cs)):=by
 obtain⟨h1,e_h1⟩:∃h1,h1=halloc h Z6:=⟨_,rfl⟩;have F_h1:Fr [] h h1:=e_h1▸Fr.halloc w _;have o_h1:Own h1 h.next Z6:=e_h1▸Own.new w _;have n1:h1.next=h.next+1:=by rw[e_h1];rfl
 have s1:=s.fr w F_h1;refine ah rfl rfl ?_;simp only[fn27,evs,seval,←e_h1];refine aa (tO F_h1.wf s1 nz) ?_;rintro u h2 ⟨F2,r1,r2⟩;have n2:=F2.next;by_cases c:0≤i∧i<X.length
 ·have p:X[i.toNat]? =some X[i.toNat]:=List.getElem?_eq_getElem (by omega);generalize X[i.toNat]=x at p;have xm:=List.mem_of_getElem? p;obtain⟨vy,rfl,cpo⟩:=r2 x c.1 p;have v1:=cpo.one;have s2:=s1.fr F_h1.wf F2;obtain⟨rk,kh,xh⟩:=s2.rd [] h2 (by simp) (Fr.refl F2.wf);have ax:=xh x xm;have ay:ItmH h2 (x.own vy):=⟨ax.k,ax.t,Sl.a cpo.rs,ax.n,ax.l⟩;obtain⟨h3,e_h3⟩:∃h3,h3=halloc h2 Z4':=⟨_,rfl⟩;have F_h3:Fr [] h2 h3:=e_h3▸Fr.halloc F2.wf _;have o_h3:Own h3 h2.next Z4':=e_h3▸Own.new F2.wf _;have n3:h3.next=h2.next+1:=by rw[e_h3];rfl
  simp only[evs,seval,←e_h3];refine ab (c':=(x.own vy).cells) F_h3.wf o_h3 rfl ay.one rfl ?_;rintro h4 o4 F4 n4;have F24:Fr [] h2 h4:=F_h3.fresh F4 F2.wf (Nat.le_refl _);have l4:ak h4 h2.next 0 4=some (x.own vy).cells:=by rw[o4.ld];rfl
  simp only[evs,seval,l4];refine aa (lW F4.wf (RulesAt.fr ⟨vK,_,_,_,s2.ob,rk,kh⟩ F24) (ay.fr F24) (show(x.own vy).type<Ks.length from ht x xm)) ?_;rintro _ h5 ⟨cs,rfl,F5,on,lc,tr⟩;have n5:=F5.next;have oz:=F5.get (F24.get (F2.get o_h1));simp only[evs,seval];refine ab (c':=cs) F5.wf oz lc on (by
   show aY Z6 0 cs=_;rw[bE _ _ _ (by show 0+cs.length≤6;omega)];simp;omega) ?_
  rintro h6 o6 F6 n6;have l6:ak h6 h.next 0 6=some cs:=by rw[o6.ld,bV,aU _ _ (by omega),List.take_of_length_le (by omega)]
  simp only[evs,seval,l6];refine⟨(F_h1.then (F2.then (F24.then F5))).fresh F6 w (Nat.le_refl _),fun e=>absurd c e,fun x' _ e=>?_⟩;rw[p]at e;cases e;refine⟨x.own vy,cs,rfl,rfl,on,lc,fun z=>?_⟩;obtain⟨q,sb,va,vc,t1,t2,t3,t4⟩:=tr z;refine⟨q,sb,va,vc,t1,t2,fun Y hh hY f=>t3 ([h.next]++Y) hh (fun y m=>?_) (Fr.trans F6 f F5.wf (fun y m=>.inl (List.mem_append.2 (.inl m))) (fun y m=>.inl (List.mem_append.2 (.inr m)))),t4⟩;rcases List.mem_append.1 m with m|m
  ·simp at m;omega
  ·have:=hY y m;omega
 ·obtain rfl:=r1 c;obtain⟨h3,e_h3⟩:∃h3,h3=halloc h2 Z4':=⟨_,rfl⟩;have F_h3:Fr [] h2 h3:=e_h3▸Fr.halloc F2.wf _;have o_h3:Own h3 h2.next Z4':=e_h3▸Own.new F2.wf _;simp only[evs,seval,←e_h3];refine ab (c':=Z4') F_h3.wf o_h3 rfl rfl rfl ?_;rintro h4 o4 F4 n4;have F24:Fr [] h2 h4:=F_h3.fresh F4 F2.wf (Nat.le_refl _);simp only[evs,seval];refine ab (c':=Z6) F4.wf (F24.get (F2.get o_h1)) rfl rfl rfl ?_;rintro h6 o6 F6 n6;have l6:ak h6 h.next 0 6=some Z6:=by rw[o6.ld];rfl
  simp only[evs,seval,l6];refine⟨(F_h1.then (F2.then F24)).fresh F6 w (Nat.le_refl _),fun _=>trivial,fun x' h0 e=>?_⟩;have:=(List.getElem?_eq_some_iff.1 e).1;omega
end
theorem Be{h:Heap}{q key:Nat}{e:Ent}(w:WF h)(o:Own h q [.int .u64 (key:Int)])(a:ItmH h e.x):ao go 69 [.agg e.cells,.ptr q 0] h fun u h'=>u=.bool (decide (e.x.key=key))∧Fr [] h h':=by
 obtain⟨h1,e_h1⟩:∃h1,h1=halloc h e.cells:=⟨_,rfl⟩;have F_h1:Fr [] h h1:=e_h1▸Fr.halloc w _;have o_h1:Own h1 h.next e.cells:=e_h1▸Own.new w _;have x0:ag h1 h.next 0=some (.int .u64 (e.x.key:Int)):=o_h1.ld1 0;have y0:ag h1 q 0=some (.int .u64 (key:Int)):=(F_h1.get o).ld1 0;have d:decide ((e.x.key:Int)=(key:Int))=decide (e.x.key=key):=decide_eq_decide.2 (by omega);refine ah rfl rfl ?_;simp only[fn69,evs,seval,←e_h1,x0,y0,d];exact F_h1
theorem un{h:Heap}{vE:V}{E:List Ent}{key:Nat}{m:Nat→Option Nat}(w:WF h)(re:Recs Ent.cells 6 h vE E)(ie:∀e∈E,ItmH h e.x)(hE:E.length≤4096)(ix:IxOf m E):ao go 25 [.agg [vE],.int .u64 (key:Int)] h fun u h'=>u=eR (m key)∧Fr [] h h':=by
 have v1:vE.one=true:=Sl.one re;obtain⟨h1,e_h1⟩:∃h1,h1=halloc h [vE]:=⟨_,rfl⟩;have F_h1:Fr [] h h1:=e_h1▸Fr.halloc w _;have o_h1:Own h1 h.next [vE]:=e_h1▸Own.new w _;obtain⟨h2,e_h2⟩:∃h2,h2=halloc h1 [.int .u64 (key:Int)]:=⟨_,rfl⟩;have F_h2:Fr [] h1 h2:=e_h2▸Fr.halloc F_h1.wf _;have o_h2:Own h2 h1.next [.int .u64 (key:Int)]:=e_h2▸Own.new F_h1.wf _;have F02:=F_h1.then F_h2;have x0:ag h2 h.next 0=some vE:=(F_h2.get o_h1).ld1 0;refine ah rfl rfl ?_;simp only[fn25,evs,seval,←e_h1,←e_h2,x0];refine aa (R:=fun u h'=>u=.int .i64 (match m key with|some j=>(j:Int)|none=>-1)∧Fr [] h2 h') ?_ ?_
 ·refine ah rfl rfl ?_;simp only[fn68,evs,seval,(re.fr F02).len];refine aC (fun n env hh=>Fr [] h2 hh∧∃i:Nat,env.get 8=some (.int .i64 i)∧env.get 7=some (.int .i64 E.length)∧env.get 0=some vE∧env.get 1=some (.func (.func 69) [] [.ptr h1.next 0])∧i≤E.length∧(∀j e,j<i→E[j]? =some e→e.x.key≠key)∧n=E.length-i) E.length (by omega) ?_ ?_
  ·exact⟨Fr.refl F_h2.wf,0,(by simp),(by simp),(by simp),(by simp),by omega,fun j e c=>by omega,rfl⟩
  ·rintro n env hh ⟨F,i,g8,g7,g0,g1,hi,hn,rfl⟩;by_cases c:i<E.length
   ·obtain⟨bi,oi,e,p1,_,p3,p4⟩:=(re.fr (F02.then F)).ix aZ .i64 (i:Int) (by omega) (by omega);rw[Int.toNat_natCast]at p4;have ae:=(ie e (List.mem_of_getElem? p4)).fr (F02.then F);have big:69<1099511627776:=by omega
    simp only[evs,seval,g8,g7,g0,g1,show(i:Int)<E.length by omega,p1,p3,big];refine aa (Be F.wf (F.get o_h2) ae) ?_;rintro _ h3 ⟨rfl,F3⟩;by_cases ck:e.x.key=key
    ·simp only[evs,seval,decide_eq_true ck];rw[(ix key i).2 ⟨e,p4,ck⟩];exact⟨rfl,F.then F3⟩
    ·simp(disch:=omega) only[evs,seval,ai,g8,decide_eq_false ck];refine(aj _ _ _).2 ⟨E.length-(i+1),by omega,F.then F3,i+1,(by simp),(by simp[g7]),(by simp[g0]),(by simp[g1]),by omega,?_,rfl⟩;intro j e' hj hx;by_cases cj:j=i
     ·subst cj;rw[p4]at hx;cases hx;exact ck
     ·exact hn j e' (by omega) hx
   ·simp only[evs,seval,g8,g7,show¬(i:Int)<E.length by omega];refine⟨?_,F⟩;cases e:m key with
    |none=>rfl
    |some j=>
     obtain⟨e',q1,q2⟩:=(ix key j).1 e;have:=(List.getElem?_eq_some_iff.1 q1).1;exact absurd q2 (hn j e' (by omega) q1)
 rintro _ h3 ⟨rfl,F3⟩;cases e:m key with
 |none=>
  simp only[evs,seval,eR,show max (-1:Int) 0=0 by omega,show decide ((0:Int)≤-1)=false by decide];exact F02.then F3
 |some j=>
  simp only[evs,seval,eR,show max (j:Int) 0=j by omega,show decide ((0:Int)≤(j:Int))=true by simp];exact F02.then F3
theorem TreeS.on{N:Nat}{h' h2:Heap}{Ks:List Knd}{x:Itm}{cs:List V}{Z:List Nat}(t:TreeS N h' Ks x cs)(f:Fr Z h' h2)(hZ:∀z∈Z,z<N):TreeS N h2 Ks x cs:=by
 obtain⟨q,s,va,vc,t1,t2,t3,t4⟩:=t;refine⟨q,s,va,vc,t1,t2,fun X h3 hX g=>?_,t4⟩;refine t3 (Z++X) h3 (fun y m=>(List.mem_append.1 m).elim (hZ y) (hX y)) ⟨Nat.le_trans f.next g.next,g.wf,fun b c hb o=>g.own b c (fun m=>hb (List.mem_append.2 (.inr m))) (f.own b c (fun m=>hb (List.mem_append.2 (.inl m))) o),fun b c hb o=>g.pl b c (fun m=>hb (List.mem_append.2 (.inr m))) (f.pl b c (fun m=>hb (List.mem_append.2 (.inl m))) o),fun b x hx e=>g.lp b x hx (f.lp b x hx e),fun b c r=>g.ro b c (f.ro b c r)⟩
theorem TreeS.le{N M:Nat}{h':Heap}{Ks:List Knd}{x:Itm}{cs:List V}(t:TreeS N h' Ks x cs)(l:M≤N):TreeS M h' Ks x cs:=by
 obtain⟨q,s,va,vc,t1,t2,t3,t4⟩:=t;exact⟨q,s,va,vc,t1,t2,fun X h3 hX g=>t3 X h3 (fun y m=>Nat.lt_of_lt_of_le (hX y m) l) g,t4⟩
theorem nT{h:Heap}{vK:V}{Ks:List Knd}{cap:Int}{x:Itm}(w:WF h)(rk:Recs Knd.cells 9 h vK Ks)(kh:∀q∈Ks,KndH h q)(a:ItmH h x)(ht:x.type<Ks.length):
 ao go 73 [.agg [vK,.int .i64 cap],.agg x.cells] h fun u h'=>∃cs,u=.tup [.agg cs,.int .i64 (bQ Ks cap x)]∧Fr [] h h'∧aq cs=true∧cs.length=6∧(bQ Ks cap x=0→TreeS h.next h' Ks x cs):=by
 have v1:vK.one=true:=Sl.one rk;obtain⟨h0,e_h0⟩:∃h0,h0=halloc h [vK,.int .i64 cap]:=⟨_,rfl⟩;have F_h0:Fr [] h h0:=e_h0▸Fr.halloc w _;have o_h0:Own h0 h.next [vK,.int .i64 cap]:=e_h0▸Own.new w _;obtain⟨h1,e_h1⟩:∃h1,h1=halloc h0 x.cells:=⟨_,rfl⟩;have F_h1:Fr [] h0 h1:=e_h1▸Fr.halloc F_h0.wf _;have o_h1:Own h1 h0.next x.cells:=e_h1▸Own.new F_h0.wf _;obtain⟨h2,e_h2⟩:∃h2,h2=halloc h1 [.int .u8 0,.str [],.str [],.nils,.str [],.nils]:=⟨_,rfl⟩;have F_h2:Fr [] h1 h2:=e_h2▸Fr.halloc F_h1.wf _;have o_h2:Own h2 h1.next [.int .u8 0,.str [],.str [],.nils,.str [],.nils]:=e_h2▸Own.new F_h1.wf _;have n0:h0.next=h.next+1:=by rw[e_h0];rfl
 have n1:h1.next=h0.next+1:=by rw[e_h1];rfl
 have n2:h2.next=h1.next+1:=by rw[e_h2];rfl
 have F02:=F_h0.then (F_h1.then F_h2);have ob:=F_h2.get (F_h1.get o_h0);have ox:=F_h2.get o_h1;have l0:ag h2 h.next 0=some vK:=ob.ld1 0;have l1:ag h2 h.next 1=some (.int .i64 cap):=ob.ld1 1;have x1:ag h2 h0.next 1=some (.int .u8 (x.type:Int)):=ox.ld1 1;have x4:ak h2 h0.next 0 4=some x.cells:=by rw[ox.ld];rfl
 obtain⟨bk,ok',q,p1,_,p3,p4⟩:=(Recs.fr rk F02).ix dQ .u8 (x.type:Int) (by omega) (by omega);rw[Int.toNat_natCast]at p4;have hq:=kh q (List.mem_of_getElem? p4);have er:bQ Ks cap x=dO q.k q.tg q.ky q.sl q.tx q.sub x cap:=by simp[bQ,p4]
 have p6:ak h2 bk ok' 6=some q.part:=lJ p3 (by omega);refine ah rfl rfl ?_;simp only[fn73,evs,seval,eff,←e_h0,←e_h1,←e_h2,l0,x1,p1,p6,x4,l1];refine aa (qc (vs:=q.vs) (vp:=q.vp) F_h2.wf (hq.fr F02) (a.fr F02)) ?_;rintro _ h3 ⟨cs,rfl,F3,z1,z2⟩;have on:aq cs=true∧cs.length=6:=by
  by_cases z:dO q.k q.tg q.ky q.sl q.tx q.sub x cap=0
  ·obtain⟨s,va,vc,rfl,n,_⟩:=z2 z;exact⟨NH.ones (n [] h3 (by simp) (Fr.refl F3.wf)),rfl⟩
  ·rw[z1 z];exact⟨rfl,rfl⟩
 have oz3:=F3.get o_h2;simp only[evs,seval,eff];refine ab (c':=cs) F3.wf oz3 on.2 on.1 (by
  rw[bE _ _ _ (by show 0+cs.length≤6;omega)];simp[V.cells];omega) ?_
 rintro h4 o4 F4 n4;have l4:ak h4 h1.next 0 6=some cs:=by
  rw[o4.ld,bV,aU _ _ (by omega),List.take_of_length_le (by omega)]
 simp only[evs,seval,DF,eff,l0,x1,p6,x4,l1,l4];refine⟨cs,by rw[er],(F02.then F3).fresh F4 w (by omega),on.1,on.2,fun z=>?_⟩;rw[er]at z;obtain⟨s,va,vc,e,n,es⟩:=z2 z;refine TreeS.le (N:=h2.next) ⟨q,s,va,vc,p4,e,fun X hh hX f=>n ([h1.next]++X) hh (fun y m=>?_) (Fr.trans F4 f F3.wf (fun y m=>.inl (List.mem_append.2 (.inl m))) (fun y m=>.inl (List.mem_append.2 (.inr m)))),es,ma z⟩ (by omega);rcases List.mem_append.1 m with m|m
 ·simp at m;omega
 ·exact hX y m
theorem yS{h:Heap}{vE:V}{E:List Ent}(w:WF h)(re:Recs Ent.cells 6 h vE E)(ie:∀e∈E,ItmH h e.x)(hE:E.length≤4096)(ok:okZ E)(hs:(E.map Ent.b).sum≤4611686018427387904):
 ao go 82 [.agg [vE]] h fun u h'=>u=.int .i64 (E.map Ent.b).sum∧Fr [] h h':=by
 have v1:vE.one=true:=Sl.one re;obtain⟨h1,e_h1⟩:∃h1,h1=halloc h [vE]:=⟨_,rfl⟩;have F_h1:Fr [] h h1:=e_h1▸Fr.halloc w _;have o_h1:Own h1 h.next [vE]:=e_h1▸Own.new w _;have x0:ag h1 h.next 0=some vE:=o_h1.ld1 0;refine ah rfl rfl ?_;simp only[fn82,evs,seval,←e_h1,x0,(re.fr F_h1).len];refine aC (fun n env hh=>Fr [] h hh∧∃i:Nat,env.get 10=some (.int .i64 i)∧env.get 9=some (.int .i64 E.length)∧env.get 8=some vE∧env.get 3=some (.int .i64 ((E.take i).map Ent.b).sum)∧i≤E.length∧n=E.length-i) E.length (by omega) ?_ ?_
 ·exact⟨F_h1,0,(by simp),(by simp),(by simp),(by simp),by omega,rfl⟩
 ·rintro n env hh ⟨F,i,g10,g9,g8,g3,hi,rfl⟩;have nn:=(ok.take i).sum_nn;by_cases c:i<E.length
  ·obtain⟨bi,oi,e,p1,_,p3,p4⟩:=(re.fr F).ix aZ .i64 (i:Int) (by omega) (by omega);rw[Int.toNat_natCast]at p4;have em:=List.mem_of_getElem? p4;have ob:=ok e em;have ts:=Ah p4;have:=(ok.drop (i+1)).sum_nn;have:=okZ.split (E:=E) (i+1);obtain⟨h3,e_h3⟩:∃h3,h3=halloc hh [.int .u64 0,.int .u8 0,.str [],.nils,.int .i64 0,.bool false]:=⟨_,rfl⟩;have F_h3:Fr [] hh h3:=e_h3▸Fr.halloc F.wf _;have o_h3:Own h3 hh.next [.int .u64 0,.int .u8 0,.str [],.nils,.int .i64 0,.bool false]:=e_h3▸Own.new F.wf _;simp only[evs,seval,g10,g9,g8,show(i:Int)<E.length by omega,p1,p3,←e_h3];refine ab (c':=e.cells) F_h3.wf o_h3 rfl (mP ((ie e em).fr F)) rfl ?_;rintro h4 o4 F4 n4;have F04:Fr [] hh h4:=F_h3.fresh F4 F.wf (Nat.le_refl _);have l4:ag h4 hh.next 4=some (.int .i64 e.b):=o4.ld1 4;simp(disch:=omega) only[evs,seval,ai,g10,g3,l4,show max e.b 0=e.b by omega,eq_false (show¬4611686018427387904-((E.take i).map Ent.b).sum<e.b by omega)];refine(aj _ _ _).2 ⟨E.length-(i+1),by omega,F.then F04,i+1,(by simp),(by simp[g9]),(by simp[g8]),(by rw[ts];simp),by omega,rfl⟩
  ·rw[List.take_of_length_le (by omega)]at g3;simp only[evs,seval,g10,g9,g3,show¬(i:Int)<E.length by omega];exact F
theorem yN{h:Heap}{vE:V}{E:List Ent}(w:WF h)(re:Recs Ent.cells 6 h vE E)(ie:∀e∈E,ItmH h e.x)(hE:E.length≤4096)(ok:okZ E)(hs:(E.map Ent.b).sum≤4611686018427387904):
 ao go 122 [.agg [vE]] h fun u h'=>u=.int .i64 0∧Fr [] h h':=by
 have v1:vE.one=true:=Sl.one re;obtain⟨h1,e_h1⟩:∃h1,h1=halloc h [vE]:=⟨_,rfl⟩;have F_h1:Fr [] h h1:=e_h1▸Fr.halloc w _;have o_h1:Own h1 h.next [vE]:=e_h1▸Own.new w _;have x1:ak h1 h.next 0 1=some [vE]:=by rw[o_h1.ld];rfl
 refine ah rfl rfl ?_;simp only[fn122,evs,seval,←e_h1,x1];refine aa (yS F_h1.wf (re.fr F_h1) (fun e m=>(ie e m).fr F_h1) hE ok hs) ?_;rintro _ h2 ⟨rfl,F2⟩;simp only[evs,seval,eq_false (show¬4611686018427387904<(E.map Ent.b).sum by omega)];exact F_h1.then F2
theorem LOk.sum{Ks:List Knd}{h:Heap}{E:List Ent}(o:LOk Ks h E):(E.map Ent.b).sum≤480:=by
 have:=rL (L:=E.map Ent.b) (fun x m=>by
  obtain⟨e,em,rfl⟩:=List.mem_map.1 m;cases ek:e.kn
  ·rw[o.b e em ek];exact o.base e em
  ·exact o.c e em ek)
 have hl:=o.l;simp at this;omega
theorem yT{h:Heap}{vK vE:V}{Ks:List Knd}{E:List Ent}(w:WF h)(rk:Recs Knd.cells 9 h vK Ks)(kh:∀q∈Ks,KndH h q)(re:Recs Ent.cells 6 h vE E)(o:LOk Ks h E):
 ao go 63 [.agg [vK,.int .i64 12],.agg [vE]] h fun u h'=>u=.int .i64 0∧Fr [] h h':=by
 have v1:vK.one=true:=Sl.one rk;have v2:vE.one=true:=Sl.one re;have hl:=o.l;have k3:=o.r.2.1;obtain⟨h1,e_h1⟩:∃h1,h1=halloc h [vK,.int .i64 12]:=⟨_,rfl⟩;have F_h1:Fr [] h h1:=e_h1▸Fr.halloc w _;have o_h1:Own h1 h.next [vK,.int .i64 12]:=e_h1▸Own.new w _;obtain⟨h2,e_h2⟩:∃h2,h2=halloc h1 [vE]:=⟨_,rfl⟩;have F_h2:Fr [] h1 h2:=e_h2▸Fr.halloc F_h1.wf _;have o_h2:Own h2 h1.next [vE]:=e_h2▸Own.new F_h1.wf _;have n1:h1.next=h.next+1:=by rw[e_h1];rfl
 have n2:h2.next=h1.next+1:=by rw[e_h2];rfl
 have F02:=F_h1.then F_h2;have c0:ak h2 h.next 0 2=some [vK,.int .i64 12]:=by rw[(F_h2.get o_h1).ld];rfl
 refine ah rfl rfl ?_;simp only[fn63,evs,seval,←e_h1,←e_h2,c0];refine aa (tw F_h2.wf (Recs.fr rk F02) (fun q m=>(kh q m).fr F02) (by omega)) ?_;rintro _ h3 ⟨rfl,F3⟩;rw[o.r.1];have kk:∀{H},Fr [] h3 H→ak H h.next 0 2=some [vK,.int .i64 12]:=fun f=>by rw[(f.get (F3.get (F_h2.get o_h1))).ld];rfl
 have k0:∀{H},Fr [] h3 H→ag H h.next 0=some vK:=fun f=>(f.get (F3.get (F_h2.get o_h1))).ld1 0;have ee:∀{H},Fr [] h3 H→ag H h1.next 0=some vE:=fun f=>(f.get (F3.get o_h2)).ld1 0;have e1:∀{H},Fr [] h3 H→ak H h1.next 0 1=some [vE]:=fun f=>by rw[(f.get (F3.get o_h2)).ld];rfl
 have e3:=ee (Fr.refl F3.wf);have F03:=F02.then F3;simp only[evs,seval,e3,re.len,show¬(1024:Int)<E.length by omega];obtain⟨h4,e_h4⟩:∃h4,h4=jB h3:=⟨_,rfl⟩;have F_h4:Fr [] h3 h4:=e_h4▸Fr.hnew F3.wf _;have s4:Seen h4 h3.next []:=⟨[],0,by rw[e_h4];exact oG _ _,rfl,by simp⟩;have e4:=ee F_h4;simp only[evs,seval,Eo,←e_h4,e4,re.len];refine aC (fun n env hh=>Fr [] h3 hh∧∃(i:Nat),env.get 25=some (.int .i64 i)∧env.get 24=some (.int .i64 E.length)∧env.get 23=some vE∧env.get 2=some (.ptr h.next 0)∧env.get 3=some (.ptr h1.next 0)∧env.get 6=some (.map h3.next)∧
  i≤E.length∧Seen hh h3.next ((E.take i).map fun e=>e.x.key)∧n=E.length-i) E.length (by omega) ?_ ?_
 ·exact⟨F_h4,0,(by simp),(by simp),(by simp),(by simp),(by simp),(by simp),by omega,s4,rfl⟩
 ·rintro n env hh ⟨F,i,g25,g24,g23,g2,g3,g6,hi,S,rfl⟩;have F0:=F03.then F;by_cases c:i<E.length
  ·obtain⟨bi,oi,e,p1,_,p3,p4⟩:=(re.fr F0).ix aZ .i64 (i:Int) (by omega) (by omega);rw[Int.toNat_natCast]at p4;have em:=List.mem_of_getElem? p4;obtain⟨ax,nz,oi,re0⟩:=o.h e em;have oi':okI e.x Ks.length=true:=by rw[k3];exact oi
   have ht:e.x.type<Ks.length:=by
    simp only[okI,Bool.and_eq_true,decide_eq_true_eq]at oi';exact oi'.2.1
   obtain⟨h5,e_h5⟩:∃h5,h5=halloc hh [.int .u64 0,.int .u8 0,.str [],.nils,.int .i64 0,.bool false]:=⟨_,rfl⟩;have F_h5:Fr [] hh h5:=e_h5▸Fr.halloc F.wf _;have o_h5:Own h5 hh.next [.int .u64 0,.int .u8 0,.str [],.nils,.int .i64 0,.bool false]:=e_h5▸Own.new F.wf _;simp only[evs,seval,g25,g24,g23,show(i:Int)<E.length by omega,p1,p3,←e_h5];refine ab (c':=e.cells) F_h5.wf o_h5 rfl (mP (ax.fr F0)) rfl ?_;rintro h6 o6 F6 n6;have Fh6:Fr [] hh h6:=F_h5.fresh F6 F.wf (Nat.le_refl _);have F36:=F.then Fh6;have i4:∀{H},Own H hh.next e.cells→ak H hh.next 0 4=some e.x.cells:=fun o=>by rw[o.ld];rfl
   have i0:∀{H},Own H hh.next e.cells→ag H hh.next 0=some (.int .u64 (e.x.key:Int)):=fun o=>o.ld1 0;have i4a:=i4 o6;have k0a:=k0 F36;simp only[evs,seval,g2,i4a,k0a,(Recs.len rk)];refine aa (vg Fh6.wf (ax.fr (F0.then Fh6)) (by omega)) ?_;rintro _ h7 ⟨rfl,F7⟩;rw[oi'];have o7:=F7.get o6;have i0a:=i0 o7;have S7:=(S.fr Fh6).fr F7;have nk:e.x.key∉(E.take i).map fun e=>e.x.key:=by
    intro m;have nd:=o.n;have:E.map (fun e=>e.x.key)=(E.take i).map (fun e=>e.x.key)++e.x.key::(E.drop (i+1)).map (fun e=>e.x.key):=by
     rw[←List.map_cons (f:=fun e:Ent=>e.x.key),←aJ p4,←List.map_append,List.take_append_drop]
    rw[this,List.nodup_append]at nd;exact nd.2.2 _ m _ (by simp) rfl
   simp only[evs,seval,g6,i0a,AF,pw,sf S7,decide_eq_false nk,En,vD];refine w9 F7.wf S7 nk ?_;intro h8 S8 B8 n8;have F38:Fr [] h3 h8:=FrB.fr F3.wf (F36.then F7) B8 (by simp) (Nat.le_refl _);have F08:=F03.then F38;have o8:=B8.own _ _ (by simp) o7;have i4b:=i4 o8;have kkb:=kk F38;simp only[evs,seval,g2,i4b,kkb];refine aa (nT F38.wf (Recs.fr rk F08) (fun q m=>(kh q m).fr F08) (ax.fr F08) ht) ?_;rintro _ h9 ⟨cs,rfl,F9,on,cl,_⟩;obtain⟨ha,e_ha⟩:∃ha,ha=halloc h9 [.int .u8 0,.str [],.str [],.nils,.str [],.nils]:=⟨_,rfl⟩;have F_ha:Fr [] h9 ha:=e_ha▸Fr.halloc F9.wf _;have o_ha:Own ha h9.next [.int .u8 0,.str [],.str [],.nils,.str [],.nils]:=e_ha▸Own.new F9.wf _;simp only[evs,←e_ha];refine ab (c':=cs) F_ha.wf o_ha cl on (by
    rw[bE _ _ _ (by show 0+cs.length≤6;omega)];simp[V.cells];omega) ?_
   rintro hb ob Fb nb;have F8b:Fr [] h8 hb:=(F9.then F_ha).fresh Fb F38.wf F9.next;have F3b:=F38.then F8b;have obx:=F8b.get o8;have b4:ag hb hh.next 4=some (.int .i64 e.b):=obx.ld1 4;have b5:ag hb hh.next 5=some (.bool e.kn):=obx.ld1 5;have Sb:=S8.fr F8b;have es:(E.take (i+1)).map (fun e=>e.x.key)=(E.take i).map (fun e=>e.x.key)++[e.x.key]:=by rw[List.take_add_one,p4];simp
   simp only[evs,seval,eff,re0,b4];refine aa (qt e.b) ?_;rintro _ _ ⟨rfl,rfl⟩;have okb:okB e.b=true:=by
    have:=o.okZ e em;simp only[okB,Bool.and_eq_true,decide_eq_true_eq];exact this
   cases ek:e.kn with
   |true=>
    rw[ek]at b5;simp(disch:=omega) only[evs,seval,DF,eff,ai,g25,b4,b5,okb];refine(aj _ _ _).2 ⟨E.length-(i+1),by omega,F3b,i+1,(by simp),(by simp[g24]),(by simp[g23]),(by simp[g2]),(by simp[g3]),(by simp[g6]),by omega,by rw[es];exact Sb,rfl⟩
   |false=>
    rw[ek]at b5;have k0b:=k0 F3b;have b1:ag hb hh.next 1=some (.int .u8 (e.x.type:Int)):=obx.ld1 1;obtain⟨bk,ok',q,q1,q2,q3,q4⟩:=(Recs.fr rk (F03.then F3b)).ix dQ .u8 (e.x.type:Int) (by omega) (by omega);rw[Int.toNat_natCast]at q4;have q6:ag hb bk (ok'+6)=some (.int .i64 q.base):=q2 6 (by omega);have qb:e.b=q.base:=by rw[o.b e em ek];simp[aN,q4]
    have okb2:okB q.base=true:=by rw[←qb];exact okb
    simp(disch:=omega) only[evs,seval,DF,eff,ai,g25,g2,b4,b5,okb2,k0b,b1,q1,q6,qb];refine(aj _ _ _).2 ⟨E.length-(i+1),by omega,F3b,i+1,(by simp),(by simp[g24]),(by simp[g23]),(by simp[g2]),(by simp[g3]),(by simp[g6]),by omega,by rw[es];exact Sb,rfl⟩
  ·have l1:=e1 F;simp only[evs,seval,g25,g24,g3,show¬(i:Int)<E.length by omega,l1];have os:=o.sum;refine aa (yN F.wf (re.fr F0) (fun e m=>((o.h e m).1).fr F0) (by omega) o.okZ (by omega)) ?_;rintro _ h5 ⟨rfl,F5⟩;simp only[evs,seval];exact F0.then F5
theorem AV{h:Heap}{vK vE:V}{Ks:List Knd}{E:List Ent}{i:Nat}{e:Ent}(w:WF h)(rk:Recs Knd.cells 9 h vK Ks)(kh:∀q∈Ks,KndH h q)(re:Recs Ent.cells 6 h vE E)(o:LOk Ks h E)(he:E[i]? =some e):
 ao go 28 [.agg [vK,.int .i64 12],.agg [vE],.int .i64 (i:Int)] h fun u h'=>Fr [] h h'∧∃cs,u=.tup [.agg cs,.int .i64 0]∧aq cs=true∧cs.length=6∧TreeS h.next h' Ks e.x cs:=by
 have v1:vK.one=true:=Sl.one rk;have v2:vE.one=true:=Sl.one re;have hl:=o.l;have il:=(List.getElem?_eq_some_iff.1 he).1;have em:=List.mem_of_getElem? he;obtain⟨ax,nz,oi,re0⟩:=o.h e em;have ht:e.x.type<Ks.length:=by
  simp only[okI,Bool.and_eq_true,decide_eq_true_eq]at oi;rw[o.r.2.1];exact oi.2.1
 obtain⟨h1,e_h1⟩:∃h1,h1=halloc h [vK,.int .i64 12]:=⟨_,rfl⟩;have F_h1:Fr [] h h1:=e_h1▸Fr.halloc w _;have o_h1:Own h1 h.next [vK,.int .i64 12]:=e_h1▸Own.new w _;obtain⟨h2,e_h2⟩:∃h2,h2=halloc h1 [vE]:=⟨_,rfl⟩;have F_h2:Fr [] h1 h2:=e_h2▸Fr.halloc F_h1.wf _;have o_h2:Own h2 h1.next [vE]:=e_h2▸Own.new F_h1.wf _;obtain⟨h3,e_h3⟩:∃h3,h3=halloc h2 Z6:=⟨_,rfl⟩;have F_h3:Fr [] h2 h3:=e_h3▸Fr.halloc F_h2.wf _;have o_h3:Own h3 h2.next Z6:=e_h3▸Own.new F_h2.wf _;have n1:h1.next=h.next+1:=by rw[e_h1];rfl
 have n2:h2.next=h1.next+1:=by rw[e_h2];rfl
 have n3:h3.next=h2.next+1:=by rw[e_h3];rfl
 have F03:=F_h1.then (F_h2.then F_h3);have c0:ak h3 h.next 0 2=some [vK,.int .i64 12]:=by rw[(F_h3.get (F_h2.get o_h1)).ld];rfl
 have c1:ak h3 h1.next 0 1=some [vE]:=by rw[(F_h3.get o_h2).ld];rfl
 refine ah rfl rfl ?_;simp only[fn28,evs,seval,←e_h1,←e_h2,←e_h3,c0,c1];refine aa (yT F03.wf (Recs.fr rk F03) (fun q m=>(kh q m).fr F03) (re.fr F03) (o.fr F03)) ?_;rintro _ h4 ⟨rfl,F4⟩;have F04:=F03.then F4;have d0:ak h4 h.next 0 2=some [vK,.int .i64 12]:=by rw[(F4.get (F_h3.get (F_h2.get o_h1))).ld];rfl
 have d1:ag h4 h1.next 0=some vE:=(F4.get (F_h3.get o_h2)).ld1 0;obtain⟨bi,oi',e',p1,_,p3,p4⟩:=(re.fr F04).ix aZ .i64 (i:Int) (by omega) (by omega);rw[Int.toNat_natCast,he]at p4;cases p4;have p4:ak h4 bi oi' 4=some e.x.cells:=lJ p3 (by omega);simp only[evs,seval,eff,d0,d1,re.len,show¬(i:Int)<0 by omega,decide_eq_false (show¬(E.length:Int)≤(i:Int) by omega),p1,p4];refine aa (nT F4.wf (Recs.fr rk F04) (fun q m=>(kh q m).fr F04) (ax.fr F04) ht) ?_;rintro _ h5 ⟨cs,rfl,F5,on,lc,tr⟩;have n4:=F4.next;have oz:=F5.get (F4.get o_h3);have tr:=tr re0;simp only[evs,seval,eff,re0];refine ab (c':=cs) F5.wf oz lc on (by
  show aY Z6 0 cs=_;rw[bE _ _ _ (by show 0+cs.length≤6;omega)];simp;omega) ?_
 rintro h6 o6 F6 n6;have l6:ak h6 h2.next 0 6=some cs:=by rw[o6.ld,bV,aU _ _ (by omega),List.take_of_length_le (by omega)]
 simp only[evs,seval,DF,eff,d0,d1,p4,l6];exact⟨(F04.then F5).fresh F6 w (by omega),cs,rfl,on,lc,(tr.on F6 (by simp;omega)).le (by omega)⟩
structure Drawn(N M:Nat)(h:Heap)(Ks:List Knd)(vE:V)(X:List Itm)(E:List Ent):Prop where
 g:Gs h N 6 vE (E.flatMap Ent.cells)
 l:∀z∈vb vE,z<M
 i:∀e∈E,ItmG N h e.x
 il:∀e∈E,∀z∈vb e.x.vm,z<M
 o:∀h',(∀e∈E,ItmH h' e.x)→LOk Ks h' E
theorem Drawn.keep{N M:Nat}{h h':Heap}{Ks:List Knd}{vE:V}{X:List Itm}{E:List Ent}{Z:List Nat}(d:Drawn N M h Ks vE X E)(f:Fr Z h h')(l:∀z∈Z,z<N∨M≤z):Drawn N M h' Ks vE X E:=
 ⟨d.g.dj f (fun z m c=>by have:=d.l z c;have:=d.g.vb z c;have:=l z m;omega),d.l,fun e m=>(d.i e m).keep f (fun z mz c=>by have:=d.il e m z c;have:=(d.i e m).g.vb z c;have:=l z mz;omega),d.il,d.o⟩
theorem Drawn.H{N M:Nat}{h:Heap}{Ks:List Knd}{vE:V}{X:List Itm}{E:List Ent}(d:Drawn N M h Ks vE X E):∀e∈E,ItmH h e.x:=fun e m=>(d.i e m).H
theorem Drawn.lok{N M:Nat}{h:Heap}{Ks:List Knd}{vE:V}{X:List Itm}{E:List Ent}(d:Drawn N M h Ks vE X E):LOk Ks h E:=d.o h d.H
theorem Drawn.rs{N M:Nat}{h:Heap}{Ks:List Knd}{vE:V}{X:List Itm}{E:List Ent}(d:Drawn N M h Ks vE X E):Recs Ent.cells 6 h vE E:=Gs.sl (n:=E.length) d.g (aG aZ _) (by omega)
theorem Bt{h:Heap}{vI vH:V}{kb:Nat}{L:List (Nat×Nat×Nat×Nat)}{H:List Nat}(w:WF h)(a:ARecs q4 4 h vI L)(hb:∀q∈L,q.1<256∧q.2.1<256∧q.2.2.1<256∧q.2.2.2<256)
 (aH:ARecs b8 1 h vH H) (hH:∀n∈H,n<256) (hk:kb<256):
 ao go 16 [.agg [vI,vH,.int .u8 (kb:Int)]] h fun u h'=>Fr [] h h'∧∃vK Ks X vE E,u=.tup [.agg [vK,.int .i64 12],.agg [vE]]∧Recs Knd.cells 9 h' vK Ks∧(∀q∈Ks,KndH h' q)∧Drawn h.next h'.next h' Ks vE X E:=by
 refine OQ.mono (FB w a hb aH hH hk) ?_;rintro _ h' ⟨F,vK,Ks,vX,X,vE,E,rfl,rk,kh,gk,okr,lk,il,G,eok,nd,el⟩;refine⟨F,vK,Ks,X,vE,E,rfl,rk,kh,G,G.lt F.wf,fun e m=>il.i _ (eok e m).m,fun e m=>(il.i _ (eok e m).m).g.lt F.wf,fun h2 hh=>⟨fun e m=>?_,fun e m=>(eok e m).b,fun e m=>(eok e m).c,nd,el,okr,lk,gk⟩⟩;have g:=il.i _ (eok e m).m;exact⟨hh e m,Sl.nz (Gs.sl (n:=e.x.marks.length) g.g (by rw[rY];exact(Nat.mul_one _).symm) (by omega)),(eok e m).o,(eok e m).r⟩
theorem xi(h:Heap):ao go 15 [] h fun u h'=>u=.bool true∧h=h':=
 ⟨.bool true,h,Hn C7 rfl (by unfold lov;rw[if_pos ⟨rfl,rfl⟩]),rfl,rfl⟩
open Go.Ev.St
set_option maxRecDepth 4000
abbrev zz:Str:=[122,122]
theorem E6{L:List Str}{c:List V}{k:IntKind}{n:Int}(e:L.flatMap sS=.int k n::c):False:=by
 cases L with
 |nil=>cases e
 |cons s L=>simp[List.flatMap_cons]at e
theorem Ao{L M:List Str}(e:L.flatMap sS=M.flatMap sS):L.length=M.length:=by
 have:=congrArg List.length e;rw[aG dW,aG dW]at this;omega
theorem CpO.lenS{N:Nat}{h:Heap}{v:V}{L:List Str}(a:CpO N h v L):aP .lenS [v]=some (.int .i64 L.length):=a.rs.len
theorem CpO.capS{N:Nat}{h:Heap}{v:V}{L:List Str}(a:CpO N h v L):aP .capS [v]=some (.int .i64 L.length):=by
 rcases a with⟨rfl,rfl|⟨b,rfl,_⟩⟩|⟨b,rfl,_⟩<;>rfl
theorem CpO.wr{N b:Nat}{h h':Heap}{v:V}{L M M':List Str}(a:CpO N h v L)(f:Fr [b] h h')(o:Own h b (M.flatMap sS))(o':Own h' b (M'.flatMap sS))(e:M'.length=M.length):∃L',L'.length=L.length∧CpO N h' v L':=by
 rcases a with⟨rfl,rfl|⟨b',rfl,hb,ob⟩⟩|⟨b',rfl,hb,ob⟩
 ·exact⟨[],rfl,.inl ⟨rfl,.inl rfl⟩⟩
 ·by_cases c:b'=b
  ·subst c;have q:M.flatMap sS=([]:List Str).flatMap sS:=o.uniq ob;have q2:=Ao q;have:M'=[]:=List.length_eq_zero_iff.1 (by rw[e,q2];rfl);subst this;exact⟨[],rfl,.inl ⟨rfl,.inr ⟨_,rfl,hb,o'⟩⟩⟩
  ·exact⟨[],rfl,.inl ⟨rfl,.inr ⟨_,rfl,hb,f.own _ _ (by simpa using c) ob⟩⟩⟩
 ·by_cases c:b'=b
  ·subst c;have q2:=Ao (o.uniq ob);exact⟨M',by omega,.inr ⟨_,by rw[e,q2],hb,o'⟩⟩
  ·exact⟨L,rfl,.inr ⟨_,rfl,hb,f.own _ _ (by simpa using c) ob⟩⟩
theorem CpO.ix{N:Nat}{h:Heap}{v:V}{L:List Str}{i:Nat}(a:CpO N h v L)(hi:i<L.length):∃b,N≤b∧Own h b (L.flatMap sS)∧aP (.ixs 1) [v,.int .i64 (i:Int)]=some (.ptr b i)∧aY (L.flatMap sS) i [.str zz]=some ((L.set i zz).flatMap sS):=by
 have p:L[i]? =some L[i]:=List.getElem?_eq_getElem hi;have u:=lK (y:=zz) (o:=0) (vs:=[.str zz]) dW L i L[i] p rfl;rw[Nat.mul_one,Nat.add_zero]at u;rcases a with⟨rfl,_⟩|⟨b,rfl,hb,o⟩
 ·simp at hi
 ·refine⟨b,hb,o,?_,u⟩;rw[fC _ _ _ _ _ _ _ (by omega) (by omega)];simp
section
variable {env : T V} {h h7 : Heap} {N : Nat} (w7 : WF h7) (hN : h7.next ≤ N)
include w7 hN
theorem EV{q:Nat}{c1 c2 c3 v:V}{L:List Str}{k1:IntKind}{n1:Int}{Q:Ex→T V→Heap→Prop}(F7:Fr [] h7 h)(g16:env.get 16=some (.ptr q 0))(e1:c1=.int k1 n1)(o:Own h q [c1,c2,c3,v])(c:CpO N h v L)(hn:L.length≤4096)
 (K:∀env' h',(∀j,j≠22→j≠153→env'.get j=env.get j)→Fr [] h7 h'→Q .norm env' h'):W go vwZ env h Q:=by
 subst e1;simp only[evs,vwZ];refine aC (fun n e hh=>Fr [] h7 hh∧(∀j,j≠22→j≠153→e.get j=env.get j)∧∃(i:Nat)(L':List Str),e.get 22=some (.int .i64 i)∧L'.length=L.length∧CpO N hh v L'∧Own hh q [.int k1 n1,c2,c3,v]∧i≤L.length∧n=L.length-i) L.length (by omega) ?_ ?_
 ·exact⟨F7,fun j a b=>by simp[a],0,L,(by simp),rfl,c,o,by omega,rfl⟩
 ·rintro n e hh ⟨F,eq,i,L',g22,len,c,o,hi,rfl⟩;have g16:e.get 16=some (.ptr q 0):=by rw[eq 16 (by omega) (by omega),g16]
  have l3:ag hh q 3=some v:=o.ld1 3;have ls:=c.lenS;rw[len]at ls;by_cases ci:i<L.length
  ·obtain⟨b,hb,ob,px,u⟩:=c.ix (i:=i) (by omega);have ne:q≠b:=by
    rintro rfl;exact E6 (ob.uniq o)
   simp only[evs,seval,g22,g16,l3,ls,show(i:Int)<L.length by omega,px];refine ab (c':=(L'.set i zz).flatMap sS) F.wf ob rfl rfl u ?_;rintro h2 o2 F2 n2;obtain⟨L2,e2,c2⟩:=c.wr F2 ob o2 (by simp);simp(disch:=omega) only[evs,seval,ai,g22];refine(aj _ _ _).2 ⟨L.length-(i+1),by omega,F.fresh F2 w7 (by omega),fun j a b=>by simp[a,b,eq j a b],i+1,L2,(by simp),by omega,c2,F2.own _ _ (by simpa using ne) o,by omega,rfl⟩
  ·simp only[evs,seval,g22,g16,l3,ls,show¬(i:Int)<L.length by omega];exact K _ _ (fun j a b=>by simp[b,eq j a b]) F
def LsW(N bo:Nat)(h:Heap)(Z Z':List Ent):Prop:=bo<N∧Own h bo (Z'.flatMap Ent.cells)∧Z'.map Ent.x=Z.map Ent.x∧∀z∈Z,∃L',L'.length=z.x.marks.length∧CpO N h z.x.vm L'
end
open Go.Ev.St
set_option maxRecDepth 4000
section
variable {env : T V} {h h7 : Heap} {N : Nat} (w7 : WF h7)
theorem LsW.wr{bo b:Nat}{h h':Heap}{Z Z':List Ent}{M M':List Str}(a:LsW N bo h Z Z')(hb:N≤b)(f:Fr [b] h h')(o:Own h b (M.flatMap sS))(o':Own h' b (M'.flatMap sS))(e:M'.length=M.length):LsW N bo h' Z Z':=by
 obtain⟨l,ob,ex,cs⟩:=a;refine⟨l,f.own _ _ (by simp;omega) ob,ex,fun z m=>?_⟩;obtain⟨L,e1,c1⟩:=cs z m;obtain⟨L',e2,c2⟩:=c1.wr f o o' e;exact⟨L',by omega,c2⟩
include w7
theorem EW{q bo k:Nat}{Z Z':List Ent}{z:Ent}{Q:Ex→T V→Heap→Prop}(F7:Fr [] h7 h)(ho:h7.next≤bo)(g23:env.get 23=some (.ptr q 0))(g24:env.get 24=some (.int .i64 (k:Int)))(oq:Own h q [.slice bo 0 Z'.length Z'.length])(ls:LsW N bo h Z Z')(hz:Z[k]? =some z)(hn:Z.length≤4096)(hm:z.x.marks.length≤4096)
 (K:∀env' h',(∀j,j≠25→j≠197→env'.get j=env.get j)→Fr [] h7 h'→Own h' q [.slice bo 0 Z'.length Z'.length]→LsW N bo h' Z Z'→Q .norm env' h'):W go vwN env h Q:=by
 have ll:Z'.length=Z.length:=by have:=congrArg List.length ls.2.2.1;simpa using this
 have kl:=(List.getElem?_eq_some_iff.1 hz).1;simp only[evs,vwN];refine aC (fun n e hh=>Fr [] h7 hh∧(∀j,j≠25→j≠197→e.get j=env.get j)∧∃(i:Nat),e.get 25=some (.int .i64 i)∧Own hh q [.slice bo 0 Z'.length Z'.length]∧LsW N bo hh Z Z'∧i≤z.x.marks.length∧n=z.x.marks.length-i) z.x.marks.length (by omega) ?_ ?_
 ·exact⟨F7,fun j a b=>by simp[a],0,(by simp),oq,ls,by omega,rfl⟩
 ·rintro n e hh ⟨F,eq,i,g25,oq,ls,hi,rfl⟩;have g23:e.get 23=some (.ptr q 0):=by rw[eq 23 (by omega) (by omega),g23]
  have g24:e.get 24=some (.int .i64 (k:Int)):=by rw[eq 24 (by omega) (by omega),g24]
  have l0:ag hh q 0=some (.slice bo 0 Z'.length Z'.length):=oq.ld1 0;obtain⟨_,ob,ex,cs⟩:=ls;obtain⟨L',len,c⟩:=cs z (List.mem_of_getElem? hz);have px:aP (.ixs 6) [.slice bo 0 Z'.length Z'.length,.int .i64 (k:Int)]=some (.ptr bo (k*6)):=by rw[fC _ _ _ _ _ _ _ (by omega) (by omega)];simp
  have rs:Recs Ent.cells 6 hh (.slice bo 0 Z'.length Z'.length) Z':=Sl.lit ob (aG aZ Z');obtain⟨b1,o1,z',p1,p2,_,p4⟩:=rs.ix aZ .i64 (k:Int) (by omega) (by omega);rw[px]at p1;cases p1;rw[Int.toNat_natCast]at p4;have exk:z'.x=z.x:=by
   have:=congrArg (fun l=>l[k]?) ex;simp only[List.getElem?_map,p4,hz,Option.map_some,Option.some.injEq]at this;exact this
  have p3:ag hh bo (k*6+3)=some z.x.vm:=by rw[←exk];exact p2 3 (by omega)
  have lsn:=c.lenS;rw[len]at lsn;by_cases ci:i<z.x.marks.length
  ·obtain⟨b,hb,om,pm,u⟩:=c.ix (i:=i) (by omega);have ne:q≠b:=by
    rintro rfl;have:=om.uniq oq;cases L' with
    |nil=>simp at len;omega
    |cons s L'=>simp[List.flatMap_cons]at this
   simp only[evs,seval,g25,g23,g24,l0,px,p3,lsn,show(i:Int)<z.x.marks.length by omega,pm];refine ab (c':=(L'.set i zz).flatMap sS) F.wf om rfl rfl u ?_;rintro h2 o2 F2 n2;simp(disch:=omega) only[evs,seval,ai,g25];refine(aj _ _ _).2 ⟨z.x.marks.length-(i+1),by omega,F.fresh F2 w7 (by omega),fun j a b=>by simp[a,b,eq j a b],i+1,(by simp),F2.own _ _ (by simpa using ne) oq,LsW.wr ⟨by assumption,ob,ex,cs⟩ hb F2 om o2 (by simp),by omega,rfl⟩
  ·simp only[evs,seval,g25,g23,g24,l0,px,p3,lsn,show¬(i:Int)<z.x.marks.length by omega];exact K _ _ (fun j a b=>by simp[b,eq j a b]) F oq ⟨by assumption,ob,ex,cs⟩
theorem EX{q bo:Nat}{Z:List Ent}{Q:Ex→T V→Heap→Prop}(F7:Fr [] h7 h)(ho:h7.next≤bo)(g23:env.get 23=some (.ptr q 0))(hq:h7.next≤q)(oq:Own h q [.slice bo 0 Z.length Z.length])(ls:LsW N bo h Z Z)(hn:Z.length≤4096)(hm:∀z∈Z,z.x.marks.length≤4096)(ok:okZ Z)
 (K:∀env' h',(∀j,j≠24→j≠176→j≠25→j≠197→env'.get j=env.get j)→Fr [] h7 h'→Q .norm env' h'):W go vwM env h Q:=by
 simp only[evs,vwM];refine aC (fun n e hh=>Fr [] h7 hh∧(∀j,j≠24→j≠176→j≠25→j≠197→e.get j=env.get j)∧∃(k:Nat)(Z':List Ent),e.get 24=some (.int .i64 k)∧Own hh q [.slice bo 0 Z'.length Z'.length]∧LsW N bo hh Z Z'∧Z'.drop k=Z.drop k∧k≤Z.length∧n=Z.length-k) Z.length (by omega) ?_ ?_
 ·exact⟨F7,fun j a b _ _=>by simp[a],0,Z,(by simp),oq,ls,rfl,by omega,rfl⟩
 ·rintro n e hh ⟨F,eq,k,Z',g24,oq,ls,ed,hi,rfl⟩;have g23:e.get 23=some (.ptr q 0):=by rw[eq 23 (by omega) (by omega) (by omega) (by omega),g23]
  have l0:ag hh q 0=some (.slice bo 0 Z'.length Z'.length):=oq.ld1 0;have ll:Z'.length=Z.length:=by have:=congrArg List.length ls.2.2.1;simpa using this
  have lsl:aP .lenS [.slice bo 0 Z'.length Z'.length]=some (.int .i64 Z.length):=by rw[tf,ll]
  by_cases ci:k<Z.length
  ·obtain⟨lb,ob,ex,cs⟩:=ls;have px:aP (.ixs 6) [.slice bo 0 Z'.length Z'.length,.int .i64 (k:Int)]=some (.ptr bo (k*6)):=by rw[fC _ _ _ _ _ _ _ (by omega) (by omega)];simp
   have rs:Recs Ent.cells 6 hh (.slice bo 0 Z'.length Z'.length) Z':=Sl.lit ob (aG aZ Z');obtain⟨b1,o1,z,p1,p2,_,p4⟩:=rs.ix aZ .i64 (k:Int) (by omega) (by omega);rw[px]at p1;cases p1;rw[Int.toNat_natCast]at p4;have pz:Z[k]? =some z:=by
    have:=congrArg (fun l=>l[0]?) ed;simp only[List.getElem?_drop,Nat.add_zero]at this;rw[←this];exact p4
   have zm:=List.mem_of_getElem? pz;have bz:=ok z zm;have p3:ag hh bo (k*6+4)=some (.int .i64 z.b):=p2 4 (by omega);have u:=lK aZ Z' k z p4 (z.upd_b (z.b+1));have ne:q≠bo:=by
    rintro rfl;have:=congrArg List.length (ob.uniq oq);rw[aG aZ]at this;simp at this;omega
   simp(disch:=omega) only[evs,seval,ai,g24,g23,l0,lsl,show(k:Int)<Z.length by omega,px,p3];refine ab (c':=(Z'.set k ⟨z.x,z.b+1,z.kn⟩).flatMap Ent.cells) F.wf ob rfl rfl u ?_;rintro h2 o2 F2 n2;have F7b:=F.fresh F2 w7 ho;have ex2:(Z'.set k ⟨z.x,z.b+1,z.kn⟩).map Ent.x=Z.map Ent.x:=by
    rw[←ex,List.map_set];refine List.ext_getElem? fun j=>?_;rw[List.getElem?_set];split
    ·subst_vars;rw[if_pos (by simp;omega),List.getElem?_map,p4];rfl
    ·rfl
   have ls2:LsW N bo h2 Z (Z'.set k ⟨z.x,z.b+1,z.kn⟩):=⟨lb,o2,ex2,fun z m=>by
    obtain⟨L,e1,c1⟩:=cs z m;exact⟨L,e1,c1.fr F2 (by simp;omega)⟩⟩
   have oq2:=F2.own _ _ (by simpa using ne) oq;rw[show Z'.length=(Z'.set k ⟨z.x,z.b+1,z.kn⟩).length by simp]at oq2;simp only[evs];refine EW w7 (Z':=Z'.set k ⟨z.x,z.b+1,z.kn⟩) (k:=k) (q:=q) F7b ho (by simp[g23]) (by simp[g24]) oq2 ls2 pz hn (hm z zm) ?_;intro e2 h3 q3 F3 oq3 ls3;have g24':e2.get 24=some (.int .i64 (k:Int)):=by rw[q3 24 (by omega) (by omega)];simp[g24]
   simp(disch:=omega) only[evs,ai,g24'];refine(aj _ _ _).2 ⟨Z.length-(k+1),by omega,F3,fun j a b c d=>by simp[a,b,q3 j c d,eq j a b c d],k+1,_,(by simp),oq3,ls3,?_,by omega,rfl⟩;rw[List.drop_set_of_lt (by omega)];have:=congrArg (List.drop 1) ed;simpa[List.drop_drop]using this
  ·simp only[evs,seval,g24,g23,l0,lsl,show¬(k:Int)<Z.length by omega];exact K _ _ (fun j a b c d=>by simp[b,eq j a b c d]) F
end
theorem Aa{env:T V}{h h7:Heap}{N:Nat}{Ks:List Knd}{b q:Nat}{E:List Ent}{vE:V}{R:V→Heap→Prop}(w7:WF h7)(F:Fr [] h7 h)(s:SE N Ks h7 b E)(re:Recs Ent.cells 6 h7 vE E)(ie:∀e∈E,ItmH h7 e.x)(hE:E.length≤1024)
 (g9:env.get 9=some (.ptr b 0)) (g10:env.get 10=some (.int .i64 (E.length:Nat))) (g8:env.get 8=some (.ptr q 0)) (o8:Own h7 q [vE]) (K:∀h',Fr [] h7 h'→R (.bool true) h'):W go vwE env h (gA [.t 6] R):=by
 have s1:=s.fr w7 F;have vo:vE.one=true:=Sl.one re;obtain⟨n0,K',X,st,vK,bg,B,bm,S,bl,pm,mc,st1,_⟩:=s1;have l1:∀{h'},Fr [] h7 h'→ak h' q 0 1=some [vE]:=fun F'=>by rw[(F'.get o8).ld];rfl
 have sm:∀{h'},Fr [] h7 h'→ao go 19 [.ptr b 0,.agg [vE]] h' fun u h2=>u=.int .i64 1∧Fr [] h7 h2:=fun{h'} F'=>by
  refine OQ.mono (CT F'.wf (s.fr w7 F') (re.fr F') (fun e m=>(ie e m).fr F') hE) ?_;rintro _ h2 ⟨rfl,F2⟩;exact⟨rfl,F'.then F2⟩
 simp only[evs,vwE,g9];refine aa (nJ F.wf st1) ?_;rintro _ h2 ⟨c,pm',rfl,hc,hp,lo,F2⟩;have F72:=F.then F2;by_cases c0:(0:Int)<(E.length:Nat)
 ·simp only[evs,seval,g10,eq_true c0];refine aa (CC F2.wf lo (by omega) (by omega) (by omega) (by omega)) ?_;rintro _ h3 ⟨F3,rfl,_⟩;have nc:¬gm (E.map Ent.b).length 0 (E.length:Nat):=by unfold gm;simp
  have n7:=F.next;have F73:Fr [] h7 h3:=Fr.new w7 F72 F3 (fun z m=>by
   rcases List.mem_cons.1 m with rfl|m
   ·omega
   ·have:=hp z (by simpa using m);omega)
  rw[if_neg nc];simp only[evs,seval,g9,g8,l1 F73];refine aa (sm F73) ?_;rintro _ h4 ⟨rfl,F4⟩;simp only[evs,seval];refine aa (xi h4) ?_;rintro _ _ ⟨rfl,rfl⟩;simp only[evs,seval];exact K _ F4
 ·simp only[evs,seval,g9,g10,g8,l1 F72,eq_false c0];refine aa (sm F72) ?_;rintro _ h4 ⟨rfl,F4⟩;simp only[evs,seval];refine aa (xi h4) ?_;rintro _ _ ⟨rfl,rfl⟩;simp only[evs,seval];exact K _ F4
theorem r8(k t:Nat)(x:Str)(m:List Str)(v u:V):∀p:PT,bK ⟨k,t,x,m,v⟩ p=bK ⟨k,t,x,m,u⟩ p
 |.nil=>rfl
 |.cons _ _ _ _ _ _ _ s n=>by
  simp only[bK,r8 k t x m v u s,r8 k t x m v u n];rfl
theorem vP{y z:Itm}(e:y.val=z.val):y=⟨z.key,z.type,z.text,z.marks,y.vm⟩:=by
 obtain⟨e1,e2,e3,e4⟩:=Itm.val_eq e;obtain⟨a,b,c,d,v⟩:=y;simp only at e1 e2 e3 e4;subst e1 e2 e3 e4;rfl
theorem uh{y z:Itm}(e:y.val=z.val)(p:PT):bK y p=bK z p:=by
 rw[vP e];exact r8 _ _ _ _ _ _ p
theorem xK{y z:Itm}(e:y.val=z.val):att y=att z:=by
 rw[vP e];rfl
theorem As{y z:Itm}{Ks:List Knd}{cap:Int}(e:y.val=z.val):bQ Ks cap y=bQ Ks cap z:=by
 unfold bQ;obtain⟨_,e2,_⟩:=Itm.val_eq e;rw[e2];split
 ·unfold dO;rw[uh e,xK e];have:fM y=fM z:=by rw[vP e];rfl
  rw[this]
 ·rfl
theorem Af{h h1 h2:Heap}{N M:Nat}{Ks K:List Knd}{x y:Itm}{cs cs':List V}(w:WF h)(sk:dm Ks K)(e:y.val=x.val)(t:TreeS N h1 K y cs)(t':TreeS M h2 Ks x cs')(f:Fr [] h1 h)(f':Fr [] h2 h):
 ao go 29 [.agg cs,.agg cs'] h fun u h'=>u=.bool true∧Fr [] h h':=by
 obtain⟨q,s,va,vc,t1,rfl,t3,t4,t5⟩:=t;obtain⟨q',s',va',vc',r1,rfl,r3,r4,r5⟩:=t';obtain⟨p,p1,p2⟩:=gJ sk r1;obtain⟨_,e2,_⟩:=Itm.val_eq e;rw[e2,p1]at t1;cases t1;obtain⟨h1',h2',h3',h4',h5',_,_,_,h9⟩:=p2;have n1:=t3 [] h (by simp) f;have n2:=r3 [] h (by simp) f';rw[←h2',←h3',←h4',xK e]at n1 t5;rw[uh e,←i9 x h9]at t4 t5;rw[←h2',←h3'];exact AO w (by rw[r4,t4]) n1 n2 (by rw[t4];exact t5)
structure VC(h7:Heap)(N:Nat)(Ks:List Knd)(b q7 q8:Nat)(vK vE:V)(E:List Ent):Prop where
 w:WF h7
 s:SE N Ks h7 b E
 rk:Recs Knd.cells 9 h7 vK Ks
 kh:∀q∈Ks,KndH h7 q
 re:Recs Ent.cells 6 h7 vE E
 o:LOk Ks h7 E
 o7:Own h7 q7 [vK,.int .i64 12]
 o8:Own h7 q8 [vE]
structure VE(env:T V)(b q7 q8 n:Nat)(i:Int):Prop where
 g1:env.get 1=some (.int .i64 i)
 g7:env.get 7=some (.ptr q7 0)
 g8:env.get 8=some (.ptr q8 0)
 g9:env.get 9=some (.ptr b 0)
 g10:env.get 10=some (.int .i64 (n:Int))
theorem Ac{env:T V}{h h7:Heap}{N:Nat}{Ks:List Knd}{b q7 q8:Nat}{vK vE:V}{E:List Ent}{i j:Int}{Q:Ex→T V→Heap→Prop}(c:VC h7 N Ks b q7 q8 vK vE E)(F:Fr [] h7 h)(ve:VE env b q7 q8 E.length i)(g15:env.get 15=some (.int .i64 j))
 (K0:∀env' h',VE env' b q7 q8 E.length i→Fr [] h7 h'→Q (.exit 0) env' h') (K1:∀env' h',VE env' b q7 q8 E.length i→env'.get 15=some (.int .i64 j)→j≠i→0≤j→j<E.length→Fr [] h7 h'→Q .norm env' h'):W go vwB env h Q:=by
 obtain⟨g1,g7,g8,g9,g10⟩:=ve;have sF:=c.s.fr c.w F;obtain⟨n0,K,X,st,vK',bg,B,bm,S,bl,pm,mc,s,sk,ev,nz,ix,_⟩:=sF;have lx:X.length=E.length:=by have:=congrArg List.length ev;simpa using this
 have hl:=c.o.l;have n7:=F.next;simp only[evs,vwB,g9,g15];refine aa (tO F.wf s nz) ?_;rintro u h2 ⟨F2,r1,r2⟩;have s2:=s.fr F.wf F2;have n2:=F2.next;by_cases cj:0≤j∧j<E.length
 ·obtain⟨k,rfl⟩:∃k:Nat,j=k:=⟨j.toNat,by omega⟩;have kl:k<E.length:=by omega
  have pe:E[k]? =some E[k]:=List.getElem?_eq_getElem kl;generalize E[k]=e at pe;have em:=List.mem_of_getElem? pe;have px:X[k]? =some X[k]:=List.getElem?_eq_getElem (by omega);generalize X[k]=x at px;have xe:x.val=e.x.val:=by
   have:=congrArg (fun l=>l[k]?) ev;simp only[List.getElem?_map,px,pe,Option.map_some,Option.some.injEq]at this;exact this
  obtain⟨xk,xt,_⟩:=Itm.val_eq xe;obtain⟨ax,nze,oi,re0⟩:=c.o.h e em;obtain⟨v,rfl,cpo⟩:=r2 x (by omega) (by rw[Int.toNat_natCast];exact px);have v1:=cpo.one;have xm:=(s2.rd [] h2 (by simp) (Fr.refl F2.wf)).2.2 x (List.mem_of_getElem? px);obtain⟨h3,e_h3⟩:∃h3,h3=halloc h2 Z4':=⟨_,rfl⟩;have F_h3:Fr [] h2 h3:=e_h3▸Fr.halloc F2.wf _;have o_h3:Own h3 h2.next Z4':=e_h3▸Own.new F2.wf _;have n3:h3.next=h2.next+1:=by rw[e_h3];rfl
  simp only[evs,seval,←e_h3];refine ab (c':=(x.own v).cells) F_h3.wf o_h3 rfl (by show aq (x.own v).cells=true;rw[dY];simp only[aA,aF,v1];rfl) rfl ?_;rintro h4 o4 F4 n4;have F24:Fr [] h2 h4:=F_h3.fresh F4 F2.wf (Nat.le_refl _);have s4:=s2.fr F2.wf F24;have tt:∀x∈X,x.type<K.length:=by
   intro y m;obtain⟨t,ht⟩:=List.getElem?_of_mem m;have q2:E[t]? =some (E[t]'(by have:=(List.getElem?_eq_some_iff.1 ht).1;omega)):=List.getElem?_eq_getElem _;generalize E[t]'(by have:=(List.getElem?_eq_some_iff.1 ht).1;omega)=e' at q2;have:=congrArg (fun l=>l[t]?) ev;simp only[List.getElem?_map,ht,q2,Option.map_some,Option.some.injEq]at this;obtain⟨_,tt,_⟩:=Itm.val_eq this;have oi':=(c.o.h e' (List.mem_of_getElem? q2)).2.2.1;simp only[okI,Bool.and_eq_true,decide_eq_true_eq]at oi';rw[tt,←dH sk,c.o.r.2.1];exact oi'.2.1
  simp only[evs,seval,g9,g15];refine aa (tM F4.wf s4 nz tt) ?_;rintro u2 h5 ⟨F5,_,r4⟩;obtain⟨y,cs,ye,rfl,on,lc,tr⟩:=r4 x (by omega) (by rw[Int.toNat_natCast];exact px);have ye2:y.val=e.x.val:=ye.trans xe;have ry:bQ K 12 y=0:=by rw[pX sk,As ye2];exact re0
  have tr:=tr ry;have n5:=F5.next;obtain⟨h6,e_h6⟩:∃h6,h6=halloc h5 Z6:=⟨_,rfl⟩;have F_h6:Fr [] h5 h6:=e_h6▸Fr.halloc F5.wf _;have o_h6:Own h6 h5.next Z6:=e_h6▸Own.new F5.wf _;have n6:h6.next=h5.next+1:=by rw[e_h6];rfl
  simp only[evs,seval,←e_h6,ry];refine ab (c':=cs) F_h6.wf o_h6 lc on (by
   show aY Z6 0 cs=_;rw[bE _ _ _ (by show 0+cs.length≤6;omega)];simp;omega) ?_
  rintro h7' o7' F7' n7';have F57:Fr [] h5 h7':=F_h6.fresh F7' F5.wf (Nat.le_refl _);have F27:=F24.then (F5.then F57);have F07:=F.then (F2.then F27);have l7:ak h7' q7 0 2=some [vK,.int .i64 12]:=by rw[(F07.get c.o7).ld];rfl
  have l8:ak h7' q8 0 1=some [vE]:=by rw[(F07.get c.o8).ld];rfl
  simp only[evs,seval,g7,g8,g10,g15,l7,l8,show¬(k:Int)<0 by omega,decide_eq_false (show¬(E.length:Int)≤(k:Int) by omega)];refine aa (AV F7'.wf (Recs.fr c.rk F07) (fun q m=>(c.kh q m).fr F07) (c.re.fr F07) (c.o.fr F07) pe) ?_;rintro _ h8 ⟨F8,cs',rfl,on',lc',tr'⟩;obtain⟨h9,e_h9⟩:∃h9,h9=halloc h8 Z6:=⟨_,rfl⟩;have F_h9:Fr [] h8 h9:=e_h9▸Fr.halloc F8.wf _;have o_h9:Own h9 h8.next Z6:=e_h9▸Own.new F8.wf _;have n8:=F8.next;have n9:h9.next=h8.next+1:=by rw[e_h9];rfl
  simp only[evs,seval,←e_h9];refine ab (c':=cs') F_h9.wf o_h9 lc' on' (by
   show aY Z6 0 cs'=_;rw[bE _ _ _ (by show 0+cs'.length≤6;omega)];simp;omega) ?_
  rintro ha oa Fa na;have F8a:Fr [] h8 ha:=F_h9.fresh Fa F8.wf (Nat.le_refl _);have F7a:=F8.then F8a;have Fha:=F07.then F7a;have b16:=F7a.get (F57.get (F5.get o4));have b18:=F7a.get o7';have i0:ag ha h2.next 0=some (.int .u64 (x.key:Int)):=b16.ld1 0;have i3:ag ha h2.next 3=some v:=b16.ld1 3;have t18:ak ha h5.next 0 6=some cs:=by rw[b18.ld,bV,aU _ _ (by omega),List.take_of_length_le (by omega)]
  have t20:ak ha h8.next 0 6=some cs':=by rw[oa.ld,bV,aU _ _ (by omega),List.take_of_length_le (by omega)]
  have l80:ag ha q8 0=some vE:=(Fha.get c.o8).ld1 0;obtain⟨bi,oi',e',p1,p2,_,p4⟩:=(c.re.fr Fha).ix aZ .i64 (k:Int) (by omega) (by omega);rw[Int.toNat_natCast,pe]at p4;cases p4;have k0:ag ha bi oi'=some (.int .u64 (x.key:Int)):=by rw[xk];exact p2 0 (by omega)
  simp only[evs,seval,eff,g8,g15,i0,l80,p1,k0,t18,t20];refine aa (Af Fa.wf sk ye2 tr tr' (F57.then F7a) F8a) ?_;rintro _ hb ⟨rfl,Fb⟩;have cpb:CpO h.next hb v x.marks:=(((cpo.fr (F24.then (F5.then F57)) (by simp)).fr F7a (by simp)).fr Fb (by simp));have i3b:ag hb h2.next 3=some v:=(Fb.get b16).ld1 3;simp only[evs,seval,DF,eff,i0,l80,k0,t18,t20,i3b,cpb.capS,cpb.lenS];refine EV c.w n7 (Fha.then Fb) (by simp) rfl (Fb.get b16) cpb xm.n ?_;intro env' hc eq Fc;have e1:env'.get 1=some (.int .i64 i):=by rw[eq 1 (by omega) (by omega)];simp[g1]
  have e7:env'.get 7=some (.ptr q7 0):=by rw[eq 7 (by omega) (by omega)];simp[g7]
  have e8:env'.get 8=some (.ptr q8 0):=by rw[eq 8 (by omega) (by omega)];simp[g8]
  have e9:env'.get 9=some (.ptr b 0):=by rw[eq 9 (by omega) (by omega)];simp[g9]
  have e10:env'.get 10=some (.int .i64 (E.length:Int)):=by rw[eq 10 (by omega) (by omega)];simp[g10]
  have e15:env'.get 15=some (.int .i64 (k:Int)):=by rw[eq 15 (by omega) (by omega)];simp[g15]
  by_cases ci:(k:Int)=i
  ·simp only[evs,seval,e1,e15,eq_true ci];exact K0 _ _ ⟨(by simp[e1]),(by simp[e7]),(by simp[e8]),(by simp[e9]),(by simp[e10])⟩ Fc
  ·simp only[evs,seval,e1,e15,eq_false ci];exact K1 _ _ ⟨(by simp[e1]),(by simp[e7]),(by simp[e8]),(by simp[e9]),(by simp[e10])⟩ (by simp[e15]) ci (by omega) (by omega) Fc
 ·obtain rfl:=r1 (by rw[lx];exact cj);obtain⟨h3,e_h3⟩:∃h3,h3=halloc h2 Z4':=⟨_,rfl⟩;have F_h3:Fr [] h2 h3:=e_h3▸Fr.halloc F2.wf _;have o_h3:Own h3 h2.next Z4':=e_h3▸Own.new F2.wf _;have n3:h3.next=h2.next+1:=by rw[e_h3];rfl
  simp only[evs,seval,←e_h3];refine ab (c':=Z4') F_h3.wf o_h3 rfl rfl rfl ?_;rintro h4 o4 F4 n4;have F24:Fr [] h2 h4:=F_h3.fresh F4 F2.wf (Nat.le_refl _);have s4:=s2.fr F2.wf F24;have tt:∀x∈X,x.type<K.length:=by
   intro y m;obtain⟨t,ht⟩:=List.getElem?_of_mem m;have q2:E[t]? =some (E[t]'(by have:=(List.getElem?_eq_some_iff.1 ht).1;omega)):=List.getElem?_eq_getElem _;generalize E[t]'(by have:=(List.getElem?_eq_some_iff.1 ht).1;omega)=e' at q2;have:=congrArg (fun l=>l[t]?) ev;simp only[List.getElem?_map,ht,q2,Option.map_some,Option.some.injEq]at this;obtain⟨_,tt,_⟩:=Itm.val_eq this;have oi':=(c.o.h e' (List.mem_of_getElem? q2)).2.2.1;simp only[okI,Bool.and_eq_true,decide_eq_true_eq]at oi';rw[tt,←dH sk,c.o.r.2.1];exact oi'.2.1
  simp only[evs,seval,g9,g15];refine aa (tM F4.wf s4 nz tt) ?_;rintro u2 h5 ⟨F5,r3,_⟩;obtain rfl:=r3 (by rw[lx];exact cj);obtain⟨h6,e_h6⟩:∃h6,h6=halloc h5 Z6:=⟨_,rfl⟩;have F_h6:Fr [] h5 h6:=e_h6▸Fr.halloc F5.wf _;have o_h6:Own h6 h5.next Z6:=e_h6▸Own.new F5.wf _;simp only[evs,seval,←e_h6];refine ab (c':=Z6) F_h6.wf o_h6 rfl rfl rfl ?_;rintro h7' o7' F7' n7';have F57:Fr [] h5 h7':=F_h6.fresh F7' F5.wf (Nat.le_refl _);have F07:=F.then (F2.then (F24.then (F5.then F57)));have b16:=F57.get (F5.get o4);have i0:ag h7' h2.next 0=some (.int .u64 0):=b16.ld1 0;have t0:ag h7' h5.next 0=some (.int .u8 0):=o7'.ld1 0;by_cases c0:j<0
  ·simp only[evs,seval,g15,eq_true c0,i0,t0];exact K0 _ _ ⟨(by simp[g1]),(by simp[g7]),(by simp[g8]),(by simp[g9]),(by simp[g10])⟩ F07
  ·simp only[evs,seval,g10,g15,eq_false c0,decide_eq_true (show(E.length:Int)≤j by omega),i0,t0];exact K0 _ _ ⟨(by simp[g1]),(by simp[g7]),(by simp[g8]),(by simp[g9]),(by simp[g10])⟩ F07
theorem EZ{env:T V}{h h7:Heap}{N:Nat}{Ks:List Knd}{b q7 q8:Nat}{vK vE:V}{E:List Ent}{i:Int}{Q:Ex→T V→Heap→Prop}(c:VC h7 N Ks b q7 q8 vK vE E)(F:Fr [] h7 h)(ve:VE env b q7 q8 E.length i)
 (K:∀env' h',VE env' b q7 q8 E.length i→Fr [] h7 h'→Q .norm env' h'):W go vwK env h Q:=by
 have hl:=c.o.l;obtain⟨g1,g7,g8,g9,g10⟩:=ve;simp only[evs,vwK];refine aC (fun n e hh=>Fr [] h7 hh∧VE e b q7 q8 E.length i∧∃k:Nat,e.get 15=some (.int .i64 k)∧k≤E.length∧n=E.length-k) E.length (by omega) ?_ ?_
 ·exact⟨F,⟨(by simp[g1]),(by simp[g7]),(by simp[g8]),(by simp[g9]),(by simp[g10])⟩,0,(by simp),by omega,rfl⟩
 ·rintro n e hh ⟨F,⟨g1,g7,g8,g9,g10⟩,k,g15,hk,rfl⟩;by_cases ck:k=E.length
  ·simp(disch:=omega) only[evs,seval,ai,g1,g10,g15,show(k:Int)<(E.length:Int)+1 by omega,eq_true (show(k:Int)=(E.length:Int) by omega)];refine Ac (i:=i) (j:=i) c F ⟨(by simp[g1]),(by simp[g7]),(by simp[g8]),(by simp[g9]),(by simp[g10])⟩ (by simp) ?_ ?_
   ·intro env' h' ve F';simp only[evs,seval];exact K _ _ ve F'
   ·intro env' h' _ _ ne;exact absurd rfl ne
  ·simp(disch:=omega) only[evs,seval,ai,g10,g15,show(k:Int)<(E.length:Int)+1 by omega,eq_false (show¬(k:Int)=(E.length:Int) by omega)];refine Ac (i:=i) (j:=k) c F ⟨(by simp[g1]),(by simp[g7]),(by simp[g8]),(by simp[g9]),(by simp[g10])⟩ (by simp[g15]) ?_ ?_
   ·intro env' h' ve F';simp only[evs,seval];exact K _ _ ve F'
   ·intro env' h' ⟨g1,g7,g8,g9,g10⟩ g15 _ _ _ F';simp(disch:=omega) only[evs,ai,g15];refine(aj _ _ _).2 ⟨E.length-(k+1),by omega,F',⟨(by simp[g1]),(by simp[g7]),(by simp[g8]),(by simp[g9]),(by simp[g10])⟩,k+1,(by simp),by omega,rfl⟩
theorem EY{env:T V}{h h7:Heap}{N:Nat}{Ks:List Knd}{b q7 q8:Nat}{vK vE:V}{E:List Ent}{i:Int}{R:V→Heap→Prop}(c:VC h7 N Ks b q7 q8 vK vE E)(F:Fr [] h7 h)(ve:VE env b q7 q8 E.length i)
 (K:∀h',Fr [] h7 h'→R (.bool true) h'):W go vwL env h (gA [.t 6] R):=by
 have hl:=c.o.l;obtain⟨g1,g7,g8,g9,g10⟩:=ve;have ie:∀e∈E,ItmH h7 e.x:=fun e m=>(c.o.h e m).1;have sF:=c.s.fr c.w F;obtain⟨n0,K',X,st,vK',bg,B,bm,S,bl,pm,mc,s,sk,ev,nz,ix,_⟩:=sF;have lx:X.length=E.length:=by have:=congrArg List.length ev;simpa using this
 have n7:=F.next;simp only[evs,vwL,g9];refine aa (pY F.wf s nz (by omega)) ?_;rintro _ h2 ⟨F2,v,Z,rfl,lo,zv,zb,zk,iz⟩;have lz:Z.length=E.length:=by have:=congrArg List.length zb;simpa using this
 have v1:v.one=true:=Sl.one lo.rs;have n2:=F2.next;obtain⟨h3,e_h3⟩:∃h3,h3=halloc h2 [.nils]:=⟨_,rfl⟩;have F_h3:Fr [] h2 h3:=e_h3▸Fr.halloc F2.wf _;have o_h3:Own h3 h2.next [.nils]:=e_h3▸Own.new F2.wf _;have n3:h3.next=h2.next+1:=by rw[e_h3];rfl
 simp only[evs,seval,←e_h3];refine ab (o:=0) (v:=.agg [v]) (c':=[v]) F_h3.wf o_h3 rfl (by show aq [_]=true;simp only[aA,aF,v1];rfl) rfl ?_;rintro h4 o4 F4 n4;have F24:Fr [] h2 h4:=F_h3.fresh F4 F2.wf (Nat.le_refl _);have F74:=F.then (F2.then F24);have l0:ag h4 h2.next 0=some v:=o4.ld1 0;rcases lo with⟨rfl,rfl⟩|⟨bo,rfl,hb,ob,cz⟩
 ·simp only[evs,seval,l0,vwM];refine aC (fun n e hh=>hh=h4∧n=0∧e.get 23=some (.ptr h2.next 0)∧e.get 24=some (.int .i64 0)∧e.get 8=some (.ptr q8 0)∧e.get 9=some (.ptr b 0)∧e.get 10=some (.int .i64 (E.length:Int))) 0 (by omega) ?_ ?_
  ·exact⟨rfl,rfl,(by simp),(by simp),(by simp[g8]),(by simp[g9]),(by simp[g10])⟩
  ·rintro n e hh ⟨rfl,rfl,g23,g24,g8,g9,g10⟩;simp only[evs,seval,g23,g24,l0,show¬(0:Int)<0 by omega];exact Aa c.w F74 c.s c.re ie (by omega) (by simp[g9]) (by simp[g10]) (by simp[g8]) c.o8 K
 ·have lsw:LsW (bo+1) bo h4 Z Z:=by
   refine⟨by omega,(F24.get ob),rfl,fun z m=>⟨z.x.marks,rfl,(cz z m).fr F24 (by simp)⟩⟩
  have okz:okZ Z:=by
   intro z m;have:z.b∈Z.map Ent.b:=List.mem_map.2 ⟨z,m,rfl⟩;rw[zb]at this;obtain⟨e,em,q⟩:=List.mem_map.1 this;rw[←q];exact c.o.okZ e em
  simp only[evs,seval,l0];refine EX c.w (N:=bo+1) (bo:=bo) (q:=h2.next) (Z:=Z) F74 (by omega) (by simp) (by omega) o4 lsw (by omega) (fun z m=>(iz z m).n) okz ?_;intro env' h5 eq F75;have e8:env'.get 8=some (.ptr q8 0):=by rw[eq 8 (by omega) (by omega) (by omega) (by omega)];simp[g8]
  have e9:env'.get 9=some (.ptr b 0):=by rw[eq 9 (by omega) (by omega) (by omega) (by omega)];simp[g9]
  have e10:env'.get 10=some (.int .i64 (E.length:Int)):=by rw[eq 10 (by omega) (by omega) (by omega) (by omega)];simp[g10]
  simp only[evs];exact Aa c.w F75 c.s c.re ie (by omega) e9 e10 e8 c.o8 K
theorem nm{h:Heap}{vI vH:V}{kb key:Nat}{i:Int}{L:List (Nat×Nat×Nat×Nat)}{H:List Nat}(w:WF h)(a:ARecs q4 4 h vI L)(hb:∀q∈L,q.1<256∧q.2.1<256∧q.2.2.1<256∧q.2.2.2<256)
 (aH:ARecs b8 1 h vH H) (hH:∀n∈H,n<256) (hk:kb<256) (hkey:key<18446744073709551616):
 ao go 6 [.agg [vI,vH,.int .u8 (kb:Int)],.int .i64 i,.int .u64 (key:Int)] h fun u h'=>u=.bool true∧Fr [] h h':=by
 have v1:=a.one;have v2:=aH.one;obtain⟨h1,e_h1⟩:∃h1,h1=halloc h [vI,vH,.int .u8 (kb:Int)]:=⟨_,rfl⟩;have F_h1:Fr [] h h1:=e_h1▸Fr.halloc w _;have o_h1:Own h1 h.next [vI,vH,.int .u8 (kb:Int)]:=e_h1▸Own.new w _;have n1:h1.next=h.next+1:=by rw[e_h1];rfl
 have l3:ak h1 h.next 0 3=some [vI,vH,.int .u8 (kb:Int)]:=by rw[o_h1.ld];rfl
 refine ah rfl rfl ?_;simp only[evs,seval,fn6x,←e_h1,l3];refine aa (Bt F_h1.wf (a.fr F_h1) hb (aH.fr F_h1) hH hk) ?_;rintro _ h2 ⟨F2,vK,Ks,X,vE,E,rfl,rk,kh,d⟩;have vk1:vK.one=true:=Sl.one rk;have ve1:=d.g.one;obtain⟨h3,e_h3⟩:∃h3,h3=halloc h2 [.nils,.int .i64 0]:=⟨_,rfl⟩;have F_h3:Fr [] h2 h3:=e_h3▸Fr.halloc F2.wf _;have o_h3:Own h3 h2.next [.nils,.int .i64 0]:=e_h3▸Own.new F2.wf _;obtain⟨h4,e_h4⟩:∃h4,h4=halloc h3 [.nils]:=⟨_,rfl⟩;have F_h4:Fr [] h3 h4:=e_h4▸Fr.halloc F_h3.wf _;have o_h4:Own h4 h3.next [.nils]:=e_h4▸Own.new F_h3.wf _;have n3:h3.next=h2.next+1:=by rw[e_h3];rfl
 have n4:h4.next=h3.next+1:=by rw[e_h4];rfl
 simp only[evs,seval,←e_h3,←e_h4];refine ab (o:=0) (v:=.agg [vK,.int .i64 12]) (c':=[vK,.int .i64 12]) F_h4.wf (F_h4.get o_h3) rfl (by show aq [_,_]=true;simp only[aA,aF,vk1];rfl) rfl ?_;rintro h5 o5 F5 n5;simp only[evs,seval];refine ab (o:=0) (v:=.agg [vE]) (c':=[vE]) F5.wf (F5.own _ _ (by simp;omega) o_h4) rfl (by show aq [_]=true;simp only[aA,aF,ve1];rfl) rfl ?_;rintro h6 o6 F6 n6;have F26:Fr [] h2 h6:=((F_h3.then F_h4).fresh F5 F2.wf (Nat.le_refl _)).fresh F6 F2.wf (by omega);have o56:=F6.own _ _ (by simp;omega) o5;have l5:ak h6 h2.next 0 2=some [vK,.int .i64 12]:=by rw[o56.ld];rfl
 have l6:ak h6 h3.next 0 1=some [vE]:=by rw[o6.ld];rfl
 have d6:=d.keep F26 (by simp);have F06:=(F_h1.then F2).then F26;simp only[evs,seval,l5,l6];refine aa (Ak F6.wf (Recs.fr rk F26) (fun q m=>(kh q m).fr F26) d6.rs d6.lok) ?_;rintro _ h7 ⟨b,rfl,F7,s7⟩;have F07:=F06.then F7;have d7:=d6.keep F7 (by simp);have el:=d7.lok.l;have vc:VC h7 h6.next Ks b h2.next h3.next vK vE E:=⟨F7.wf,s7,Recs.fr rk (F26.then F7),fun q m=>(kh q m).fr (F26.then F7),d7.rs,d7.lok,F7.get o56,F7.get o6⟩;have l7:ag h7 h3.next 0=some vE:=(F7.get o6).ld1 0;have s7':=s7;obtain⟨n0,K,X',st,vK',bg,B,bm,S,bl,pm,mc,s,sk,ev,nz,ix,_⟩:=s7';simp only[evs,seval,l7,d7.rs.len];refine aa (tQ F7.wf s hkey) ?_;rintro _ h8 ⟨rfl,F8⟩;have l8:ak h8 h3.next 0 1=some [vE]:=by rw[(F8.get (F7.get o6)).ld];rfl
 have fin:∀{env:T V}{hh:Heap},Fr [] h7 hh→VE env b h2.next h3.next E.length i→W go vwK env hh (pO go vwL (gA [.t 6] fun u h'=>u=.bool true∧Fr [] h h')):=by
  intro env hh F' ve;refine EZ vc F' ve ?_;intro env' h' ve' F'';simp only[evs];exact EY vc F'' ve' fun h2 f=>⟨rfl,F07.then f⟩
 cases em:mc.1 key with
 |none=>
  simp only[evs,seval,eR,l8];refine aa (un F8.wf (d7.rs.fr F8) (fun e m=>(d7.H e m).fr F8) (by omega) ix) ?_;rintro _ h9 ⟨rfl,F9⟩;simp only[evs,seval,eR,em];exact fin (F8.then F9) ⟨(by simp),(by simp),(by simp),(by simp),(by simp)⟩
 |some j=>
  simp only[evs,seval,eR,l8];refine aa (un F8.wf (d7.rs.fr F8) (fun e m=>(d7.H e m).fr F8) (by omega) ix) ?_;rintro _ h9 ⟨rfl,F9⟩;simp only[evs,seval,eR,em];exact fin (F8.then F9) ⟨(by simp),(by simp),(by simp),(by simp),(by simp)⟩
end Go.Ev.Lay
