/- An evaluator of the program, and contracts over it: StbQ to StbZc. -/
import Derived.Test.YtdbfhmneijcjbaaGreatP11
set_option linter.unusedSimpArgs false
set_option linter.unusedVariables false
set_option linter.constructorNameAsVariable false
set_option linter.unnecessarySimpa false
namespace Go.Ev.Lay
open Go.Ev.St
set_option maxRecDepth 4000
def e6:List V:=[.int .u8 0,.str [],.str [],.nils,.str [],.nils]
def pZ:Str:=[114,111,119]
theorem pD(a n:Nat)(b:Int)(hb:b=n)(h:n≠0):aP (.ib .rem) [.int .u8 (a:Int),.int .u8 b]=some (.int .u8 ((a%n:Nat):Int)):=by
 subst hb;rw[ke _ _ _ (by omega)];congr 2
theorem E8(a n:Nat)(b:Int)(hb:b=n)(h:n≠0)(ha:a<256):aP (.ib .quo) [.int .u8 (a:Int),.int .u8 b]=some (.int .u8 ((a/n:Nat):Int)):=by
 subst hb;have:=Nat.div_le_self a n;rw[lT _ _ _ (by omega),show Int.tdiv (a:Int) n=((a/n:Nat):Int)from(Int.ofNat_tdiv a n).symm];generalize a/n=q at *;rw[Bd _ (by omega) (by omega)]
theorem yU{h:Heap}{b:Nat}(w:WF h)(hb:b<256):
 ao go 56 [.int .u8 (b:Int)] h fun u h'=>Fr [] h h'∧∃Ks,(∀Z h'',(∀z∈Z,z<h.next)→Fr Z h' h''→Recs Knd.cells 9 h'' u Ks∧∀q∈Ks,KndH h'' q)∧GK Ks∧okR Ks 12=true∧Ks.length=3:=by
 obtain⟨h1,e_h1⟩:∃h1,h1=halloc h [.str [110],.int .u8 3,.str [],.str [116,101,120,116],.int .u8 1,.str []]:=⟨_,rfl⟩;have F_h1:Fr [] h h1:=e_h1▸Fr.halloc w _;have o_h1:Own h1 h.next [.str [110],.int .u8 3,.str [],.str [116,101,120,116],.int .u8 1,.str []]:=e_h1▸Own.new w _;obtain⟨h2,e_h2⟩:∃h2,h2=halloc h1 [.int .u8 3,.str [],.str [],.nils,.str [],.nils]:=⟨_,rfl⟩;have F_h2:Fr [] h1 h2:=e_h2▸Fr.halloc F_h1.wf _;have o_h2:Own h2 h1.next [.int .u8 3,.str [],.str [],.nils,.str [],.nils]:=e_h2▸Own.new F_h1.wf _;obtain⟨h3,e_h3⟩:∃h3,h3=halloc h2 [.int .u8 0,.str [],.str [],.nils,.str [],.nils]:=⟨_,rfl⟩;have F_h3:Fr [] h2 h3:=e_h3▸Fr.halloc F_h2.wf _;have o_h3:Own h3 h2.next [.int .u8 0,.str [],.str [],.nils,.str [],.nils]:=e_h3▸Own.new F_h2.wf _;have n1:h1.next=h.next+1:=by rw[e_h1];rfl
 have n2:h2.next=h1.next+1:=by rw[e_h2];rfl
 have n3:h3.next=h2.next+1:=by rw[e_h3];rfl
 refine ah rfl rfl ?_;simp only[fn56,evs,seval,←e_h1,←e_h2,←e_h3];refine ab (c':=[.int .u8 1,.str pZ,.str [],.slice h.next 0 2 2,.str [],.slice h1.next 0 1 1]) F_h3.wf o_h3 rfl rfl rfl ?_;rintro h4 o4 F4 n4;obtain⟨h5,e_h5⟩:∃h5,h5=halloc h4 [.str [105,100],.int .u8 2,.str []]:=⟨_,rfl⟩;have F_h5:Fr [] h4 h5:=e_h5▸Fr.halloc F4.wf _;have o_h5:Own h5 h4.next [.str [105,100],.int .u8 2,.str []]:=e_h5▸Own.new F4.wf _;obtain⟨h6,e_h6⟩:∃h6,h6=halloc h5 [.int .u8 2,.str [],.str [],.nils,.str [35],.nils,.int .u8 4,.str [],.str [],.nils,.str [],.nils]:=⟨_,rfl⟩;have F_h6:Fr [] h5 h6:=e_h6▸Fr.halloc F_h5.wf _;have o_h6:Own h6 h5.next [.int .u8 2,.str [],.str [],.nils,.str [35],.nils,.int .u8 4,.str [],.str [],.nils,.str [],.nils]:=e_h6▸Own.new F_h5.wf _;obtain⟨h7,e_h7⟩:∃h7,h7=halloc h6 [.int .u8 0,.str [],.str [],.nils,.str [],.nils]:=⟨_,rfl⟩;have F_h7:Fr [] h6 h7:=e_h7▸Fr.halloc F_h6.wf _;have o_h7:Own h7 h6.next [.int .u8 0,.str [],.str [],.nils,.str [],.nils]:=e_h7▸Own.new F_h6.wf _;simp only[evs,seval,←e_h5,←e_h6,←e_h7];refine ab (c':=[.int .u8 1,.str [104,101,97,100],.str [104],.slice h4.next 0 1 1,.str [],.slice h5.next 0 2 2]) F_h7.wf o_h7 rfl rfl rfl ?_;rintro h8 o8 F8 n8;obtain⟨h9,e_h9⟩:∃h9,h9=halloc h8 [.int .u8 3,.str [],.str [],.nils,.str [],.nils]:=⟨_,rfl⟩;have F_h9:Fr [] h8 h9:=e_h9▸Fr.halloc F8.wf _;have o_h9:Own h9 h8.next [.int .u8 3,.str [],.str [],.nils,.str [],.nils]:=e_h9▸Own.new F8.wf _;obtain⟨ha,e_ha⟩:∃ha,ha=halloc h9 [.str [111,102],.int .u8 2,.str []]:=⟨_,rfl⟩;have F_ha:Fr [] h9 ha:=e_ha▸Fr.halloc F_h9.wf _;have o_ha:Own ha h9.next [.str [111,102],.int .u8 2,.str []]:=e_ha▸Own.new F_h9.wf _;obtain⟨hb',e_hb'⟩:∃hb',hb'=halloc ha [.int .u8 1,.str [98],.str [98,50],.nils,.str [],.slice h8.next 0 1 1,.int .u8 5,.str [116,97,103],.str [],.slice h9.next 0 1 1,.str [],.nils]:=⟨_,rfl⟩;have F_hb':Fr [] ha hb':=e_hb'▸Fr.halloc F_ha.wf _;have o_hb':Own hb' ha.next [.int .u8 1,.str [98],.str [98,50],.nils,.str [],.slice h8.next 0 1 1,.int .u8 5,.str [116,97,103],.str [],.slice h9.next 0 1 1,.str [],.nils]:=e_hb'▸Own.new F_ha.wf _;obtain⟨hc,e_hc⟩:∃hc,hc=halloc hb' [.int .u8 0,.str [],.str [],.nils,.str [],.nils]:=⟨_,rfl⟩;have F_hc:Fr [] hb' hc:=e_hc▸Fr.halloc F_hb'.wf _;have o_hc:Own hc hb'.next [.int .u8 0,.str [],.str [],.nils,.str [],.nils]:=e_hc▸Own.new F_hb'.wf _;simp only[evs,seval,←e_h9,←e_ha,←e_hb',←e_hc];refine ab (c':=[.int .u8 1,.str pZ,.str [],.nils,.str [],.slice ha.next 0 2 2]) F_hc.wf o_hc rfl rfl rfl ?_;rintro hd od Fd nd;have n4':h4.next=h2.next+1:=by omega
 have n5:h5.next=h4.next+1:=by rw[e_h5];rfl
 have n6:h6.next=h5.next+1:=by rw[e_h6];rfl
 have n7:h7.next=h6.next+1:=by rw[e_h7];rfl
 have n9:h9.next=h8.next+1:=by rw[e_h9];rfl
 have na:ha.next=h9.next+1:=by rw[e_ha];rfl
 have nb:hb'.next=ha.next+1:=by rw[e_hb'];rfl
 have nc:hc.next=hb'.next+1:=by rw[e_hc];rfl
 have F47:=F_h5.then (F_h6.then F_h7);have F8c:=F_h9.then (F_ha.then (F_hb'.then F_hc));have o4d:=Fd.own _ _ (by simp;omega) (F8c.get (F8.own _ _ (by simp;omega) (F47.get o4)));have o8d:=Fd.own _ _ (by simp;omega) (F8c.get o8);have p4:ak hd h2.next 0 6=some [.int .u8 1,.str pZ,.str [],.slice h.next 0 2 2,.str [],.slice h1.next 0 1 1]:=by rw[o4d.ld];rfl
 have p8:ak hd h6.next 0 6=some [.int .u8 1,.str [104,101,97,100],.str [104],.slice h4.next 0 1 1,.str [],.slice h5.next 0 2 2]:=by rw[o8d.ld];rfl
 have pd:ak hd hb'.next 0 6=some [.int .u8 1,.str pZ,.str [],.nils,.str [],.slice ha.next 0 2 2]:=by rw[od.ld];rfl
 let k0:Knd:=⟨1,pZ,[],[([110],3,[]),([116,101,120,116],1,[])],[],.slice h.next 0 2 2,.slice h1.next 0 1 1,.cons 3 [] [] [] [] .nils .nils .nil .nil,10+((b%7:Nat):Int),false,((b%4:Nat):Int)⟩;let k1:Knd:=⟨1,[104,101,97,100],[104],[([105,100],2,[])],[],.slice h4.next 0 1 1,.slice h5.next 0 2 2,.cons 2 [] [] [] [35] .nils .nils .nil (.cons 4 [] [] [] [] .nils .nils .nil .nil),6+((b%3:Nat):Int),true,((b/4%3:Nat):Int)⟩;let k2:Knd:=⟨1,pZ,[],[],[],.nils,.slice ha.next 0 2 2,.cons 1 [98] [98,50] [] [] .nils (.slice h8.next 0 1 1) (.cons 3 [] [] [] [] .nils .nils .nil .nil) (.cons 5 [116,97,103] [] [([111,102],2,[])] [] (.slice h9.next 0 1 1) .nils .nil .nil),20,decide (((b%16:Nat):Int)=15),((b/8%3:Nat):Int)⟩;have m7:b%7<7:=Nat.mod_lt _ (by decide);have m4:b%4<4:=Nat.mod_lt _ (by decide);have m3:b%3<3:=Nat.mod_lt _ (by decide);have m43:b/4%3<3:=Nat.mod_lt _ (by decide);have m83:b/8%3<3:=Nat.mod_lt _ (by decide);obtain⟨he,e_he⟩:∃he,he=halloc hd (k0.cells++(k1.cells++(k2.cells++[]))):=⟨_,rfl⟩;have F_he:Fr [] hd he:=e_he▸Fr.halloc Fd.wf _;have o_he:Own he hd.next (k0.cells++(k1.cells++(k2.cells++[]))):=e_he▸Own.new Fd.wf _;have t8:∀{B:Nat}{cs:List V},Own h8 B cs→B<hb'.next→Own he B cs:=fun o l=>F_he.get (Fd.own _ _ (by simp;omega) (F8c.get o));have t4:∀{B:Nat}{cs:List V},Own h4 B cs→B<h6.next→Own he B cs:=fun o l=>t8 (F8.own _ _ (by simp;omega) (F47.get o)) (by omega);have x1:=t4 (F4.own _ _ (by simp;omega) ((F_h2.then F_h3).get o_h1)) (by omega);have x2:=t4 (F4.own _ _ (by simp;omega) (F_h3.get o_h2)) (by omega);have x5:=t8 (F8.own _ _ (by simp;omega) ((F_h6.then F_h7).get o_h5)) (by omega);have x6:=t8 (F8.own _ _ (by simp;omega) (F_h7.get o_h6)) (by omega);have x9:=F_he.get (Fd.own _ _ (by simp;omega) ((F_ha.then (F_hb'.then F_hc)).get o_h9));have xa:=F_he.get (Fd.own _ _ (by simp;omega) ((F_hb'.then F_hc).get o_ha));have xb:=F_he.get (Fd.own _ _ (by simp;omega) (F_hc.get o_hb'));have h3n:h.next≤h2.next:=by omega
 have FF:Fr [] h he:=((((((F_h1.then (F_h2.then F_h3)).fresh F4 w (by omega)).then F47).fresh F8 w (by omega)).then F8c).fresh Fd w (by omega)).then F_he;have gk:GK [k0,k1,k2]:=by
  intro q m;simp only[List.mem_cons,List.not_mem_nil,or_false]at m;rcases m with rfl|rfl|rfl
  ·refine⟨?_,by simp[PG,PT.len,k0],show 1≤10+((b%7:Nat):Int) by omega,show 10+((b%7:Nat):Int)≤40 by omega⟩;have:okB (10+((b%7:Nat):Int))=true:=by simp only[okB,Bool.and_eq_true,decide_eq_true_eq];omega
   show(okB (10+((b%7:Nat):Int))&&_)=true;rw[this];rfl
  ·refine⟨?_,by simp[PG,PT.len,k1],show 1≤6+((b%3:Nat):Int) by omega,show 6+((b%3:Nat):Int)≤40 by omega⟩;have:okB (6+((b%3:Nat):Int))=true:=by simp only[okB,Bool.and_eq_true,decide_eq_true_eq];omega
   show(okB (6+((b%3:Nat):Int))&&_)=true;rw[this];rfl
  ·exact⟨rfl,by simp[PG,PT.len,k2],show(1:Int)≤20 by omega,show(20:Int)≤40 by omega⟩
 have fin:Fr [] h he∧∃Ks,(∀Z h'',(∀z∈Z,z<h.next)→Fr Z he h''→Recs Knd.cells 9 h'' (.slice hd.next 0 3 3) Ks∧∀q∈Ks,KndH h'' q)∧GK Ks∧okR Ks 12=true∧Ks.length=3:=by
  refine⟨FF,[k0,k1,k2],?_,gk,?_,rfl⟩
  ·intro Z H hZ f;have go:∀{B:Nat}{cs:List V},Own he B cs→h.next≤B→Own H B cs:=fun o l=>f.own _ _ (fun m=>by have:=hZ _ m;omega) o;have x1:=go x1 (by omega);have x2:=go x2 (by omega);have x5:=go x5 (by omega);have x6:=go x6 (by omega);have x9:=go x9 (by omega);have xa:=go xa (by omega);have xb:=go xb (by omega);refine⟨Sl.lit (go o_he (by omega)) rfl,?_⟩;intro q m;simp only[List.mem_cons,List.not_mem_nil,or_false]at m;rcases m with rfl|rfl|rfl
   ·exact⟨Nat.le_of_ble_eq_true rfl,Sl.lit x1 rfl,Nat.le_of_ble_eq_true rfl,Sl.lit x2 rfl,Nat.le_of_ble_eq_true rfl,⟨Nat.le_of_ble_eq_true rfl,⟨rfl,rfl⟩,Nat.le_of_ble_eq_true rfl,⟨rfl,rfl⟩,Nat.le_of_ble_eq_true rfl,trivial,trivial⟩,trivial⟩
   ·exact⟨Nat.le_of_ble_eq_true rfl,Sl.lit x5 rfl,Nat.le_of_ble_eq_true rfl,Sl.lit x6 rfl,Nat.le_of_ble_eq_true rfl,⟨Nat.le_of_ble_eq_true rfl,⟨rfl,rfl⟩,Nat.le_of_ble_eq_true rfl,⟨rfl,rfl⟩,Nat.le_of_ble_eq_true rfl,trivial,⟨Nat.le_of_ble_eq_true rfl,⟨rfl,rfl⟩,Nat.le_of_ble_eq_true rfl,⟨rfl,rfl⟩,Nat.le_of_ble_eq_true rfl,trivial,trivial⟩⟩,trivial⟩
   ·exact⟨Nat.le_of_ble_eq_true rfl,⟨rfl,rfl⟩,Nat.le_of_ble_eq_true rfl,Sl.lit xb rfl,Nat.le_of_ble_eq_true rfl,⟨Nat.le_of_ble_eq_true rfl,⟨rfl,rfl⟩,Nat.le_of_ble_eq_true rfl,Sl.lit x9 rfl,Nat.le_of_ble_eq_true rfl,⟨Nat.le_of_ble_eq_true rfl,⟨rfl,rfl⟩,Nat.le_of_ble_eq_true rfl,⟨rfl,rfl⟩,Nat.le_of_ble_eq_true rfl,trivial,trivial⟩,⟨Nat.le_of_ble_eq_true rfl,Sl.lit xa rfl,Nat.le_of_ble_eq_true rfl,⟨rfl,rfl⟩,Nat.le_of_ble_eq_true rfl,trivial,trivial⟩⟩,trivial⟩
  ·have:[k0,k1,k2].all okK=true:=List.all_eq_true.2 fun q m=>(gk q m).1;unfold okR;rw[this];rfl
 simp(disch:=omega) only[evs,seval,ai,p4,p8,pd,pD b 7 7 rfl (by decide),pD b 4 4 rfl (by decide),pD b 3 3 rfl (by decide),E8 b 4 4 rfl (by decide) hb,pD (b/4) 3 3 rfl (by decide),pD b 16 16 rfl (by decide),E8 b 8 8 rfl (by decide) hb,pD (b/8) 3 3 rfl (by decide)];rw[e_he]at fin;exact fin
theorem FZ{call:aD}{env:T V}{h:Heap}{k:Nat}{op:IOp}{cs:List V}{o:Option (Nat×Nat)}{Br Rr:List Nat}{reads:List (Nat×Nat×Nat)}{sets:List (Nat×Nat)}{Q:Ex→T V→Heap→Prop}(A B:List IStep)(hk:A.length=k)(lc:∀loc,fZ loc env op=some (cs,o))
 (x:WD call env ((A.map fun s=>(s,none))++(⟨none,op,none⟩,some (dy h.next o,cs))::B.map fun s=>(s,none)) [] [halloc h cs] (halloc h cs) (DF call (A++⟨none,op,none⟩::B) reads sets env (Q .norm))):
 W call (.dops (A++⟨none,op,none⟩::B) [k] Br Rr reads sets) env h Q:=by
 refine(zP _ _ _ _ _ _ _).2 ?_;have e:∀loc,lay call env [k] (⟨none,op,none⟩::B) k loc h=some ((⟨none,op,none⟩,some (dy h.next o,cs))::B.map (fun s=>(s,none)),halloc h cs):=by
  intro loc;have c:List.contains [k] k=true:=by simp
  simp only[lay,c,cond_true,lc,kE B (k+1) _ _ (Nat.lt_succ_self k)]
 rw[sg A 0 [] (by omega) e,gC];exact x
theorem AU{loc:List V}{env:T V}{op:IOp}{cs:List V}{o:Option (Nat×Nat)}(n:Nat)(e:fZ loc env op=some (cs,o)):bI loc env op (dy n o) cs=true:=by
 cases o with
 |none=>simp only[bI,e,lid,dy,du,dh,Bool.and_self]
 |some q=>obtain⟨q,r⟩:=q;simp only[bI,e,lid,dy,du,dh,Bool.and_self]
def Ad:List Str:=[[],[97],[114,111,119],[116,119,111,32,119,111,114,100,115],[32,32],[126,33,45,44],[97,32,108,111,110,103,101,114,32,116,101,120,116,32,111,102,32,116,104,105,115,32,107,105,110,100],[57]]
theorem GZ(loc:List V)(env:T V)(n:Nat):bI loc env (.bs [(.str [])] [(0,1),(1,1),(2,1),(3,1),(4,1),(5,1),(6,1),(7,1)] 8 [.c (.str []),.c (.str [97]),.c (.str [114,111,119]),.c (.str [116,119,111,32,119,111,114,100,115]),.c (.str [32,32]),.c (.str [126,33,45,44]),.c (.str [97,32,108,111,110,103,101,114,32,116,101,120,116,32,111,102,32,116,104,105,115,32,107,105,110,100]),.c (.str [57])]) (.slice n 0 8 8) (Ad.map V.str)=true:=AU (o:=some (8,8)) n rfl
theorem wg(b n k:Nat):dy b (some (n,k))=.slice b 0 n k:=rfl
abbrev GL:List IStep:=[⟨none,.p (.ixa 4 1) [.v 1,.c (.int .i64 0)],none⟩,⟨none,.ld 1 false (.l 0),none⟩,⟨none,.p (.ib .rem) [.l 0,.c (.int .u8 60)],none⟩,⟨none,.p (.conv .u64) [.l 0],none⟩,⟨none,.p (.ib .add) [.c (.int .u64 1),.l 0],none⟩,⟨none,.p (.ixa 4 1) [.v 1,.c (.int .i64 1)],none⟩,⟨none,.ld 1 false (.l 0),none⟩,⟨none,.p (.ib .rem) [.l 0,.c (.int .u8 3)],none⟩]
abbrev GJ:List IStep:=[⟨none,.p (.ixa 4 1) [.v 1,.c (.int .i64 2)],none⟩,⟨none,.ld 1 false (.l 0),none⟩,⟨none,.p (.ib .rem) [.l 0,.c (.int .u8 8)],none⟩,⟨none,.p (.ixs 1) [.l 3,.l 0],none⟩,⟨none,.ld 1 false (.l 0),none⟩,⟨none,.p (.build [(.int .u64 0),(.int .u8 0),(.str []),.nils] [(0,1),(1,1),(2,1)]) [.l 9,.l 6,.l 0],none⟩,⟨none,.al [(.int .u64 0),(.int .u8 0),(.str []),.nils],none⟩,⟨none,.st 4 (.l 0) (.l 1),none⟩]
theorem HN(x:Int)(a n:Nat)(b:Int)(hx:x=a)(hb:b=n)(h:n≠0):aP (.ib .rem) [.int .i64 x,.int .i64 b]=some (.int .i64 ((a%n:Nat):Int)):=by
 subst hb;subst hx;rw[ke _ _ _ (by omega)];congr 2
theorem rY(l:List Str):(l.flatMap sS).length=l.length:=by
 induction l with
 |nil=>rfl
 |cons a l ih=>simp only[List.flatMap_cons,List.length_append,ih,List.length_cons];show 1+_=_;omega
theorem _root_.Go.Ev.Gs.keep{h h':Heap}{B e:Nat}{v:V}{cs:List V}{Z:List Nat}(g:Gs h B e v cs)(f:Fr Z h h')(hZ:∀z∈Z,z<B):Gs h' B e v cs:=by
 rcases g with z|⟨b,n,z1,z2,z3,z4,o⟩
 ·exact .inl z
 ·exact .inr ⟨b,n,z1,z2,z3,z4,f.own _ _ (fun m=>by have:=hZ _ m;omega) o⟩
theorem _root_.Go.Ev.Gs.vb{h:Heap}{B e:Nat}{v:V}{cs:List V}(g:Gs h B e v cs):∀z∈vb v,B≤z:=by
 rcases g with⟨rfl,_⟩|⟨b,n,rfl,_,_,z4,_⟩
 ·simp[Go.Ev.vb]
 ·intro z m;simp[Go.Ev.vb]at m;omega
theorem _root_.Go.Ev.Gs.le{h:Heap}{B C e:Nat}{v:V}{cs:List V}(g:Gs h B e v cs)(l:C≤B):Gs h C e v cs:=by
 rcases g with z|⟨b,n,z1,z2,z3,z4,o⟩
 ·exact .inl z
 ·exact .inr ⟨b,n,z1,z2,z3,by omega,o⟩
structure ItmG(N:Nat)(h:Heap)(x:Itm):Prop where
 k:x.key<18446744073709551616
 t:x.type<256
 g:Gs h N 1 x.vm (x.marks.flatMap sS)
 n:x.marks.length≤4096
 l:x.text.length<16777216
theorem ItmG.H{N:Nat}{h:Heap}{x:Itm}(a:ItmG N h x):ItmH h x:=⟨a.k,a.t,Sl.a (Gs.sl (n:=x.marks.length) a.g (by rw[rY];exact(Nat.mul_one _).symm) (by omega)),a.n,a.l⟩
theorem ItmG.keep{N:Nat}{h h':Heap}{x:Itm}{Z:List Nat}(a:ItmG N h x)(f:Fr Z h h')(d:∀z∈Z,z∉vb x.vm):ItmG N h' x:=by
 refine⟨a.k,a.t,?_,a.n,a.l⟩;rcases a.g with z|⟨b,n,z1,z2,z3,z4,o⟩
 ·exact .inl z
 ·exact .inr ⟨b,n,z1,z2,z3,z4,f.own _ _ (fun m=>d _ m (by rw[z1];simp[vb])) o⟩
def mk3:List Str:=[[97],[98,50],[107,101,121]]
theorem C6{h:Heap}{b0 b1 b2 b3:Nat}(w:WF h)(h0:b0<256)(h1':b1<256)(h2':b2<256)(h3':b3<256):
 ao go 112 [.agg [.int .u8 (b0:Int),.int .u8 (b1:Int),.int .u8 (b2:Int),.int .u8 (b3:Int)]] h fun u h'=>Fr [] h h'∧∃x:Itm,u=.agg x.cells∧ItmG h.next h' x:=by
 obtain⟨h1,e_h1⟩:∃h1,h1=halloc h [.int .u8 (b0:Int),.int .u8 (b1:Int),.int .u8 (b2:Int),.int .u8 (b3:Int)]:=⟨_,rfl⟩;have F_h1:Fr [] h h1:=e_h1▸Fr.halloc w _;have o_h1:Own h1 h.next [.int .u8 (b0:Int),.int .u8 (b1:Int),.int .u8 (b2:Int),.int .u8 (b3:Int)]:=e_h1▸Own.new w _;obtain⟨h2,e_h2⟩:∃h2,h2=halloc h1 [.int .u64 0,.int .u8 0,.str [],.nils]:=⟨_,rfl⟩;have F_h2:Fr [] h1 h2:=e_h2▸Fr.halloc F_h1.wf _;have o_h2:Own h2 h1.next [.int .u64 0,.int .u8 0,.str [],.nils]:=e_h2▸Own.new F_h1.wf _;have l0:ag h2 h.next 0=some (.int .u8 (b0:Int)):=(F_h2.get o_h1).ld1 0;have l1:ag h2 h.next 1=some (.int .u8 (b1:Int)):=(F_h2.get o_h1).ld1 1;have l2:ag h2 h.next 2=some (.int .u8 (b2:Int)):=(F_h2.get o_h1).ld1 2;have l3:ag h2 h.next 3=some (.int .u8 (b3:Int)):=(F_h2.get o_h1).ld1 3;refine ah rfl rfl ?_;simp only[fn112,evs,seval,←e_h1,←e_h2];have n1:h1.next=h.next+1:=by rw[e_h1];rfl
 have n2:h2.next=h1.next+1:=by rw[e_h2];rfl
 refine FZ (op:=.bs [(.str [])] [(0,1),(1,1),(2,1),(3,1),(4,1),(5,1),(6,1),(7,1)] 8 [.c (.str []),.c (.str [97]),.c (.str [114,111,119]),.c (.str [116,119,111,32,119,111,114,100,115]),.c (.str [32,32]),.c (.str [126,33,45,44]),.c (.str [97,32,108,111,110,103,101,114,32,116,101,120,116,32,111,102,32,116,104,105,115,32,107,105,110,100]),.c (.str [57])]) GL GJ rfl (fun _=>rfl) (cs:=Ad.map V.str) (o:=some (8,8)) ?_;obtain⟨h3,e_h3⟩:∃h3,h3=halloc h2 (Ad.map V.str):=⟨_,rfl⟩;have F_h3:Fr [] h2 h3:=e_h3▸Fr.halloc F_h2.wf _;have o_h3:Own h3 h2.next (Ad.map V.str):=e_h3▸Own.new F_h2.wf _;have F23:=F_h3;have m0:ag h3 h.next 0=some (.int .u8 (b0:Int)):=(F_h3.get (F_h2.get o_h1)).ld1 0;have m1:ag h3 h.next 1=some (.int .u8 (b1:Int)):=(F_h3.get (F_h2.get o_h1)).ld1 1;have m2:ag h3 h.next 2=some (.int .u8 (b2:Int)):=(F_h3.get (F_h2.get o_h1)).ld1 2;obtain⟨h4,e_h4⟩:∃h4,h4=halloc h3 [.int .u64 0,.int .u8 0,.str [],.nils]:=⟨_,rfl⟩;have F_h4:Fr [] h3 h4:=e_h4▸Fr.halloc F_h3.wf _;have o_h4:Own h4 h3.next [.int .u64 0,.int .u8 0,.str [],.nils]:=e_h4▸Own.new F_h3.wf _;have n3:h3.next=h2.next+1:=by rw[e_h3];rfl
 have xa:∀i:Nat,i<4→aP (.ixa 4 1) [.ptr h.next 0,.int .i64 (i:Int)]=some (.ptr h.next i):=fun i hi=>by rw[ti 1 h.next 0 4 _ _ (by omega) (by omega)];simp
 have x0:aP (.ixa 4 1) [.ptr h.next 0,.int .i64 0]=some (.ptr h.next 0):=xa 0 (by omega);have x1:aP (.ixa 4 1) [.ptr h.next 0,.int .i64 1]=some (.ptr h.next 1):=xa 1 (by omega);have x2:aP (.ixa 4 1) [.ptr h.next 0,.int .i64 2]=some (.ptr h.next 2):=xa 2 (by omega);have x3:aP (.ixa 4 1) [.ptr h.next 0,.int .i64 3]=some (.ptr h.next 3):=xa 3 (by omega);have ge8:b2%8<8:=Nat.mod_lt _ (by decide);obtain⟨bt,ot,x8,y8,_⟩:=Sl.ix (esz:=1) (v:=.slice h2.next 0 8 8) (n:=8) (Sl.lit o_h3 rfl) .u8 ((b2%8:Nat):Int) (by omega) (by omega);obtain⟨tx,tb⟩:∃tx,Ad[b2%8]? =some tx∧tx.length<30:=by
  have:b2%8<8:=Nat.mod_lt _ (by decide);match b2%8,this with
  |0,_|1,_|2,_|3,_|4,_|5,_|6,_|7,_=>exact⟨_,rfl,by decide⟩
 have t0:ag h3 bt ot=some (.str tx):=by
  have:=y8 0 (by omega);rw[Int.toNat_natCast,Nat.mul_one,Nat.add_zero,Nat.add_zero,List.getElem?_map,tb.1]at this;exact this
 simp(disch:=omega) only[evs,seval,eff,m0,m1,m2,←e_h3,GL,GJ,c7,GZ,wg,pD b0 60 60 rfl (by decide),pD b1 3 3 rfl (by decide),pD b2 8 8 rfl (by decide),t0,←e_h4,x0,x1,x2,x8,cP];refine ab (c':=[.int .u64 (1+((b0%60:Nat):Int)),.int .u8 ((b1%3:Nat):Int),.str tx,.nils]) F_h4.wf o_h4 rfl rfl rfl ?_;rintro h5 o5 F5 n5;have F4:=F_h4;have k0:ag h4 h.next 0=some (.int .u8 (b0:Int)):=(F4.get (F_h3.get (F_h2.get o_h1))).ld1 0;have k1:ag h4 h.next 1=some (.int .u8 (b1:Int)):=(F4.get (F_h3.get (F_h2.get o_h1))).ld1 1;have k2:ag h4 h.next 2=some (.int .u8 (b2:Int)):=(F4.get (F_h3.get (F_h2.get o_h1))).ld1 2;have FF:Fr [] h h5:=(F_h1.then (F_h2.then (F_h3.then F_h4))).fresh F5 w (by omega);have ob:=F5.own _ _ (by simp;omega) (F4.get (F_h3.get (F_h2.get o_h1)));obtain⟨bt',ot',x8',y8',_⟩:=Sl.ix (esz:=1) (v:=.slice h2.next 0 8 8) (n:=8) (Sl.lit (F4.get o_h3) rfl) .u8 ((b2%8:Nat):Int) (by omega) (by omega);rw[x8]at x8';cases x8';have t4:ag h4 bt ot=some (.str tx):=by
  have:=y8' 0 (by omega);rw[Int.toNat_natCast,Nat.mul_one,Nat.add_zero,Nat.add_zero,List.getElem?_map,tb.1]at this;exact this
 have o2:=F5.own _ _ (by simp;omega) (F4.get (F_h3.get o_h2));simp only[evs,seval,DF,m0,m1,m2,k0,k1,k2,t0,t4];have n4:h4.next=h3.next+1:=by rw[e_h4];rfl
 refine aC (fun n env hh=>Fr [] h hh∧∃(i:Nat)(vm:V)(ms:List Str),env.get 4=some (.int .i64 i)∧env.get 3=some (.ptr h3.next 0)∧env.get 1=some (.ptr h.next 0)∧env.get 2=some (.ptr h1.next 0)∧i≤3∧
  Own hh h.next [.int .u8 (b0:Int),.int .u8 (b1:Int),.int .u8 (b2:Int),.int .u8 (b3:Int)]∧Own hh h1.next [.int .u64 0,.int .u8 0,.str [],.nils]∧Own hh h3.next [.int .u64 (1+((b0%60:Nat):Int)),.int .u8 ((b1%3:Nat):Int),.str tx,vm]∧Gs hh h4.next 1 vm (ms.flatMap sS)∧h4.next≤hh.next∧ms.length≤i∧n=3-i) 3 (by omega) ?_ ?_
 ·exact⟨FF,0,.nils,[],(by simp),(by simp),(by simp),(by simp),by omega,ob,o2,o5,.inl ⟨rfl,rfl⟩,by omega,by simp,rfl⟩
 ·rintro n env hh ⟨F,i,vm,ms,g4,g3,g1,g2,hi,ob,o2,oi,G,nx,ml,rfl⟩;have p3:ag hh h.next 3=some (.int .u8 (b3:Int)):=ob.ld1 3;have v3:ag hh h3.next 3=some vm:=oi.ld1 3;by_cases hlt:i<3
  ·have hlt':(i:Int)<3:=by omega
   obtain⟨s,xs⟩:∃s,aP (.sh false) [.int .u8 (b3:Int),.int .i64 (i:Int)]=some (.int .u8 s):=⟨_,wM _ _ _ _ (by omega)⟩;obtain⟨y,xy⟩:∃y,aP (.ib .and) [.int .u8 s,.int .u8 1]=some (.int .u8 y):=⟨_,B9 _ _ _⟩;by_cases c:0<y
   ·obtain⟨a1,e_a1⟩:∃a1,a1=halloc hh [.str [97],.str [98,50],.str [107,101,121]]:=⟨_,rfl⟩;have F_a1:Fr [] hh a1:=e_a1▸Fr.halloc F.wf _;have o_a1:Own a1 hh.next [.str [97],.str [98,50],.str [107,101,121]]:=e_a1▸Own.new F.wf _;have m3:(i+b3/8)%3<3:=Nat.mod_lt _ (by decide);have xq:∀{H},Fr [] a1 H→∃bs os,aP (.ixs 1) [.slice hh.next 0 3 3,.int .i64 (((i+b3/8)%3:Nat):Int)]=some (.ptr bs os)∧ag H bs os=(mk3.map V.str)[(i+b3/8)%3]? :=by
     intro H f;obtain⟨bs,os,xq,yq,_⟩:=Sl.ix (esz:=1) (v:=.slice hh.next 0 3 3) (n:=3) (Sl.lit (f.get o_a1) rfl) .i64 (((i+b3/8)%3:Nat):Int) (by omega) (by omega);refine⟨bs,os,xq,?_⟩;have:=yq 0 (by omega);rw[Int.toNat_natCast,Nat.mul_one,Nat.add_zero,Nat.add_zero]at this;exact this
    obtain⟨mk,em⟩:∃mk,(mk3.map V.str)[(i+b3/8)%3]? =some (.str mk):=by
     match(i+b3/8)%3,m3 with
     |0,_|1,_|2,_=>exact⟨_,rfl⟩
    rw[em]at xq;obtain⟨bs,os,xq1,t1⟩:=xq (Fr.refl F_a1.wf);obtain⟨a2,e_a2⟩:∃a2,a2=halloc a1 [.str mk]:=⟨_,rfl⟩;have F_a2:Fr [] a1 a2:=e_a2▸Fr.halloc F_a1.wf _;have o_a2:Own a2 a1.next [.str mk]:=e_a2▸Own.new F_a1.wf _;obtain⟨_,_,xq2,t2⟩:=xq F_a2;rw[xq1]at xq2;cases xq2;have na1:a1.next=hh.next+1:=by rw[e_a1];rfl
    have na2:a2.next=a1.next+1:=by rw[e_a2];rfl
    have F02:=F_a1.then F_a2;have p31:ag a1 h.next 3=some (.int .u8 (b3:Int)):=(F_a1.get ob).ld1 3;have p32:ag a2 h.next 3=some (.int .u8 (b3:Int)):=(F02.get ob).ld1 3;have v31:ag a1 h3.next 3=some vm:=(F_a1.get oi).ld1 3;have v32:ag a2 h3.next 3=some vm:=(F02.get oi).ld1 3;simp(disch:=omega) only[evs,seval,eff,ai,g4,g3,g1,hlt',x3,p3,xs,xy,eq_true c,v3,←e_a1,E8 b3 8 8 rfl (by decide) h3',ai,HN ((i:Int)+((b3/8:Nat):Int)) (i+b3/8) 3 3 (by omega) rfl (by decide),xq1,t1,←e_a2,p31];have mlen:=rY ms;refine Gs.append1 (bytes:=16) (n:=1) F_a2.wf (G.fr F02) (Sl.lit o_a2 rfl) (by omega) (by omega) rfl (by omega) (by rw[mlen];omega) ?_;intro vm' a3 G3 e3 F3;have vb0:=G.vb;have oi3:=F3.own _ _ (fun m=>by have:=vb0 _ m;omega) (F02.get oi);have p33:ag a3 h.next 3=some (.int .u8 (b3:Int)):=(F3.own _ _ (fun m=>by have:=vb0 _ m;omega) (F02.get ob)).ld1 3;have na3:=F3.next;have c1:vm'.one=true:=by
     rcases G3 with⟨rfl,_⟩|⟨b,n,rfl,_⟩<;>rfl
    simp only[evs,seval,eff,g3];refine ab (c':=[.int .u64 (1+((b0%60:Nat):Int)),.int .u8 ((b1%3:Nat):Int),.str tx,vm']) F3.wf oi3 (by rw[aB c1];rfl) (by rw[aB c1];simp only[aA,aF,c1];rfl) (by rw[aB c1];rfl) ?_;rintro a4 oi4 F4' n4';simp(disch:=omega) only[evs,seval,DF,ai,g4,p3,p31,v3,v31,v32,t1];have FN:Fr [] h a4:=(Fr.new w (F.then F02) F3 (fun y hy=>by have:=vb0 _ hy;omega)).fresh F4' w (by omega);have eq:(ms++[mk]).flatMap sS=ms.flatMap sS++[.str mk]:=by simp[sS]
    refine(aj _ _ _).2 ⟨3-(i+1),by omega,FN,i+1,vm',ms++[mk],(by simp),(by simp[g3]),(by simp[g1]),(by simp[g2]),by omega,F4'.own _ _ (by simp;omega) (F3.own _ _ (fun m=>by have:=vb0 _ m;omega) (F02.get ob)),F4'.own _ _ (by simp;omega) (F3.own _ _ (fun m=>by have:=vb0 _ m;omega) (F02.get o2)),oi4,by rw[eq];exact G3.keep F4' (by simp;omega),by omega,by simp;omega,rfl⟩
   ·simp(disch:=omega) only[evs,seval,ai,g4,g1,hlt',x3,p3,xs,xy,eq_false c];refine(aj _ _ _).2 ⟨3-(i+1),by omega,F,i+1,vm,ms,(by simp),(by simp[g3]),(by simp[g1]),(by simp[g2]),by omega,ob,o2,oi,G,nx,by omega,rfl⟩
  ·have nlt:¬(i:Int)<3:=by omega
   by_cases c:(240:Int)≤b3
   ·obtain⟨a1,e_a1⟩:∃a1,a1=halloc hh [.str [97],.str [97]]:=⟨_,rfl⟩;have F_a1:Fr [] hh a1:=e_a1▸Fr.halloc F.wf _;have o_a1:Own a1 hh.next [.str [97],.str [97]]:=e_a1▸Own.new F.wf _;simp only[evs,seval,g4,g3,g1,eq_false nlt,x3,p3,eq_true c,v3,←e_a1];have mlen:=rY ms;have na1:a1.next=hh.next+1:=by rw[e_a1];rfl
    refine Gs.append1 (bytes:=16) (n:=2) F_a1.wf (G.fr F_a1) (Sl.lit o_a1 rfl) (by omega) (by omega) rfl (by omega) (by rw[mlen];omega) ?_;intro vm' a3 G3 e3 F3;have vb0:=G.vb;have oi3:=F3.own _ _ (fun m=>by have:=vb0 _ m;omega) (F_a1.get oi);have na3:=F3.next;have c1:vm'.one=true:=by
     rcases G3 with⟨rfl,_⟩|⟨b,n,rfl,_⟩<;>rfl
    simp only[evs,seval,g3];refine ab (c':=[.int .u64 (1+((b0%60:Nat):Int)),.int .u8 ((b1%3:Nat):Int),.str tx,vm']) F3.wf oi3 (by rw[aB c1];rfl) (by rw[aB c1];simp only[aA,aF,c1];rfl) (by rw[aB c1];rfl) ?_;rintro a4 oi4 F4' n4';have FN:Fr [] h a4:=(Fr.new w (F.then F_a1) F3 (fun y hy=>by have:=vb0 _ hy;omega)).fresh F4' w (by omega);have eq:(ms++[[97],[97]]).flatMap sS=ms.flatMap sS++[.str [97],.str [97]]:=by simp[sS]
    have o24:=F4'.own _ _ (by simp;omega) (F3.own _ _ (fun m=>by have:=vb0 _ m;omega) (F_a1.get o2));have G4:Gs a4 h4.next 1 vm' ((ms++[[97],[97]]).flatMap sS):=by rw[eq];exact G3.keep F4' (by simp;omega)
    have ld:ak a4 h3.next 0 4=some [.int .u64 (1+((b0%60:Nat):Int)),.int .u8 ((b1%3:Nat):Int),.str tx,vm']:=by rw[(oi4).ld];rfl
    simp only[evs,seval,g3,g2,ld];refine ab (o:=0) (v:=.agg [.int .u64 (1+((b0%60:Nat):Int)),.int .u8 ((b1%3:Nat):Int),.str tx,vm']) (c':=[.int .u64 (1+((b0%60:Nat):Int)),.int .u8 ((b1%3:Nat):Int),.str tx,vm']) (FN).wf (o24) rfl (by show aq [_,_,_,_]=true;simp only[aA,aF,c1];rfl) rfl ?_;rintro z o5 F5' n5';have ld5:ak z h1.next 0 4=some [.int .u64 (1+((b0%60:Nat):Int)),.int .u8 ((b1%3:Nat):Int),.str tx,vm']:=by rw[o5.ld];rfl
    simp only[evs,seval,g2,ld5];refine⟨(FN).fresh F5' w (by omega),⟨1+b0%60,b1%3,tx,ms++[[97],[97]],vm'⟩,rfl,by show 1+b0%60<_;omega,by show b1%3<256;omega,?_,by show(ms++[[97],[97]]).length≤4096;simp;omega,by show tx.length<16777216;omega⟩;exact((G4).keep F5' (by simp;omega)).le (by omega)
   ·simp only[evs,seval,g4,g3,g1,eq_false nlt,x3,p3,eq_false c];have c1:vm.one=true:=by
     rcases G with⟨rfl,_⟩|⟨b,n,rfl,_⟩<;>rfl
    have ld:ak hh h3.next 0 4=some [.int .u64 (1+((b0%60:Nat):Int)),.int .u8 ((b1%3:Nat):Int),.str tx,vm]:=by rw[(oi).ld];rfl
    simp only[evs,seval,ld,g2];refine ab (o:=0) (v:=.agg [.int .u64 (1+((b0%60:Nat):Int)),.int .u8 ((b1%3:Nat):Int),.str tx,vm]) (c':=[.int .u64 (1+((b0%60:Nat):Int)),.int .u8 ((b1%3:Nat):Int),.str tx,vm]) (F).wf (o2) rfl (by show aq [_,_,_,_]=true;simp only[aA,aF,c1];rfl) rfl ?_;rintro z o5 F5' n5';have ld5:ak z h1.next 0 4=some [.int .u64 (1+((b0%60:Nat):Int)),.int .u8 ((b1%3:Nat):Int),.str tx,vm]:=by rw[o5.ld];rfl
    simp only[evs,seval,g2,ld5];refine⟨(F).fresh F5' w (by omega),⟨1+b0%60,b1%3,tx,ms,vm⟩,rfl,by show 1+b0%60<_;omega,by show b1%3<256;omega,?_,by show(ms).length≤4096;omega,by show tx.length<16777216;omega⟩;exact((G).keep F5' (by simp;omega)).le (by omega)
def q4(q:Nat×Nat×Nat×Nat):List V:=[.int .u8 (q.1:Int),.int .u8 (q.2.1:Int),.int .u8 (q.2.2.1:Int),.int .u8 (q.2.2.2:Int)]
structure IL(N:Nat)(h:Heap)(v:V)(X:List Itm):Prop where
 g:Gs h N 4 v (X.flatMap Itm.cells)
 i:∀x∈X,ItmG N h x
 d:∀x∈X,∀z∈vb v,z∉vb x.vm
 n:(X.map Itm.key).Nodup
theorem IL.fr{N:Nat}{h h':Heap}{v:V}{X:List Itm}(a:IL N h v X)(f:Fr [] h h'):IL N h' v X:=⟨a.g.fr f,fun x m=>(a.i x m).keep f (by simp),a.d,a.n⟩
theorem IL.keep{N:Nat}{h h':Heap}{v:V}{X:List Itm}{Z:List Nat}(a:IL N h v X)(f:Fr Z h h')(l:∀z∈Z,z<N):IL N h' v X:=
 ⟨a.g.keep f l,fun x m=>(a.i x m).keep f (fun z hz c=>by have:=l z hz;have:=(a.i x m).g.vb z c;omega),a.d,a.n⟩
theorem ItmG.le{N M:Nat}{h:Heap}{x:Itm}(a:ItmG N h x)(l:M≤N):ItmG M h x:=⟨a.k,a.t,a.g.le l,a.n,a.l⟩
theorem IL.le{N M:Nat}{h:Heap}{v:V}{X:List Itm}(a:IL N h v X)(l:M≤N):IL M h v X:=⟨a.g.le l,fun x m=>(a.i x m).le l,a.d,a.n⟩
theorem IL.rs{N:Nat}{h:Heap}{v:V}{X:List Itm}(a:IL N h v X):Recs Itm.cells 4 h v X:=Gs.sl (n:=X.length) a.g (aG dD X) (by omega)
theorem _root_.Go.Ev.Gs.lt{h:Heap}{B e:Nat}{v:V}{cs:List V}(w:WF h)(g:Gs h B e v cs):∀z∈vb v,z<h.next:=by
 rcases g with⟨rfl,_⟩|⟨b,n,rfl,_,_,_,o⟩
 ·simp[Go.Ev.vb]
 ·intro z m;simp[Go.Ev.vb]at m;have:=o.lt w;omega
theorem Fo{h:Heap}{v:V}{L:List (Nat×Nat×Nat×Nat)}(w:WF h)(a:ARecs q4 4 h v L)(hb:∀q∈L,q.1<256∧q.2.1<256∧q.2.2.1<256∧q.2.2.2<256):
 ao go 57 [.agg [v]] h fun u h'=>Fr [] h h'∧∃X,IL h.next h' u X∧X.length≤12:=by
 obtain⟨h1,e_h1⟩:∃h1,h1=halloc h [v]:=⟨_,rfl⟩;have F_h1:Fr [] h h1:=e_h1▸Fr.halloc w _;have o_h1:Own h1 h.next [v]:=e_h1▸Own.new w _;have n1:h1.next=h.next+1:=by rw[e_h1];rfl
 refine ah rfl rfl ?_;simp only[fn57,evs,seval,←e_h1];refine aC (fun n env hh=>Fr [] h hh∧Fr [] h1 hh∧∃(i:Nat)(u:V)(X:List Itm),env.get 4=some (.int .i64 i)∧env.get 3=some u∧env.get 1=some (.ptr h.next 0)∧i≤L.length∧i≤12∧X.length≤i∧IL h1.next hh u X∧n=12-i) 12 (by omega) ?_ ?_
 ·exact⟨F_h1,Fr.refl F_h1.wf,0,.nils,[],(by simp),(by simp),(by simp),by omega,by omega,by simp,⟨.inl ⟨rfl,rfl⟩,by simp,by simp,by simp⟩,rfl⟩
 ·rintro n env hh ⟨F,F1,i,u,X,g4,g3,g1,hi,h12,hX,il,rfl⟩;have ob:=F1.get o_h1;have l0:ag hh h.next 0=some v:=ob.ld1 0;have len:=(a.fr F).len;by_cases c1:i<L.length
  ·by_cases c2:i<12
   ·obtain⟨bi,oi,q,p1,_,p3,p4⟩:=(a.fr F).ix (f:=q4) (k:=4) (fun _=>rfl) .i64 (i:Int) (by omega) (by omega);rw[Int.toNat_natCast]at p4;obtain⟨b1,b2,b3,b4⟩:=hb q (List.mem_of_getElem? p4);simp only[evs,seval,g4,g1,l0,len,show(i:Int)<L.length by omega,show(i:Int)<12 by omega,p1,p3];refine aa (C6 F.wf b1 b2 b3 b4) ?_;rintro _ h2 ⟨F2,x,rfl,gx⟩;obtain⟨h3,e_h3⟩:∃h3,h3=halloc h2 [.int .u64 0,.int .u8 0,.str [],.nils]:=⟨_,rfl⟩;have F_h3:Fr [] h2 h3:=e_h3▸Fr.halloc F2.wf _;have o_h3:Own h3 h2.next [.int .u64 0,.int .u8 0,.str [],.nils]:=e_h3▸Own.new F2.wf _;simp only[evs,seval,←e_h3];refine ab (c':=x.cells) F_h3.wf o_h3 rfl gx.H.one rfl ?_;rintro h4 o4 F4 n4;have n3:h3.next=h2.next+1:=by rw[e_h3];rfl
    have n2:=F2.next;have nh:=F1.next;have F24:Fr [] h2 h4:=F_h3.fresh F4 F2.wf (by omega);have F04:=F2.then F24;have il4:=il.fr F04;have gx4:=gx.keep F24 (by simp);have k0:ag h4 h2.next 0=some (.int .u64 (x.key:Int)):=o4.ld1 0;have ld4:ak h4 h2.next 0 4=some x.cells:=by rw[o4.ld];rfl
    simp only[evs,seval,g3,k0];refine aa (Bi il4.rs (by omega)) ?_;rintro _ _ ⟨rfl,r,rfl,hr⟩;by_cases c3:r<0
    ·obtain⟨h5,e_h5⟩:∃h5,h5=halloc h4 x.cells:=⟨_,rfl⟩;have F_h5:Fr [] h4 h5:=e_h5▸Fr.halloc F4.wf _;have o_h5:Own h5 h4.next x.cells:=e_h5▸Own.new F4.wf _;have u1:aY [.int .u64 0,.int .u8 0,.str [],.nils] 0 x.cells=some x.cells:=rfl;simp only[evs,seval,g3,eq_true c3,ld4,show x.cells.length=4 from rfl,u1,←e_h5];have n5:h5.next=h4.next+1:=by rw[e_h5];rfl
     have il5:=il4.fr F_h5;have gx5:=gx4.keep F_h5 (by simp);refine Gs.append1 (bytes:=56) (n:=1) F_h5.wf il5.g (Sl.lit o_h5 rfl) (by omega) (by omega) gx.H.one (by omega) (by rw[aG dD X];omega) ?_;intro u' h6 G6 e6 F6;have ul:=il.g.lt F.wf;have ub:=il.g.vb;have xb:=gx.g.vb;have gx6:=gx5.keep F6 (fun z m c=>by have:=ul z m;have:=xb z c;omega);have i6:∀y∈X,ItmG h1.next h6 y:=fun y m=>(il5.i y m).keep F6 (il5.d y m);have xl:=gx5.g.lt F_h5.wf;have n6:=F6.next;have F06:=F04.then F_h5;have FN:Fr [] h h6:=Fr.new w (F.then F06) F6 (fun y hy=>by have:=ub _ hy;omega);have FN1:Fr [] h1 h6:=Fr.new F_h1.wf (F1.then F06) F6 (fun y hy=>ub _ hy);have eq:(X++[x]).flatMap Itm.cells=X.flatMap Itm.cells++x.cells:=by simp
     have nk:∀y∈X,y.key≠x.key:=fun y m e=>by have:=hr.2 ⟨y,m,e⟩;omega
     have ilN:IL h1.next h6 u' (X++[x]):=by
      refine⟨by rw[eq];exact G6,?_,?_,?_⟩
      ·intro y m;rcases List.mem_append.1 m with m|m
       ·exact i6 y m
       ·rw[List.mem_singleton.1 m];exact gx6.le (by omega)
      ·intro y m z hz c;rw[e6,List.mem_singleton]at hz;subst hz;rcases List.mem_append.1 m with m|m
       ·have:=(il5.i y m).g.lt F_h5.wf _ c;omega
       ·rw[List.mem_singleton.1 m]at c;have:=xl _ c;omega
      ·rw[List.map_append,List.nodup_append];refine⟨il.n,by simp,?_⟩;intro p hp p' hp' e;obtain⟨y,ym,rfl⟩:=List.mem_map.1 hp;simp only[List.map_cons,List.map_nil,List.mem_singleton]at hp';exact nk y ym (by rw[e,hp'])
     simp(disch:=omega) only[evs,seval,ai,g4];refine(aj _ _ _).2 ⟨12-(i+1),by omega,FN,FN1,i+1,u',X++[x],(by simp),(by simp),(by simp[g1]),by omega,by omega,by simp;omega,ilN,rfl⟩
    ·simp(disch:=omega) only[evs,seval,ai,g4,eq_false c3];refine(aj _ _ _).2 ⟨12-(i+1),by omega,F.then F04,F1.then F04,i+1,u,X,(by simp),(by simp[g3]),(by simp[g1]),by omega,by omega,by omega,il4,rfl⟩
   ·simp only[evs,seval,g4,g3,g1,l0,len,show(i:Int)<L.length by omega,show¬(i:Int)<12 by omega];exact⟨F,X,il.le (by omega),by omega⟩
  ·simp only[evs,seval,g4,g3,g1,l0,len,show¬(i:Int)<L.length by omega];exact⟨F,X,il.le (by omega),by omega⟩
structure Ent where
 x:Itm
 b:Int
 kn:Bool
def Ent.cells(e:Ent):List V:=e.x.ent e.b e.kn
theorem aZ(e:Ent):e.cells.length=6:=rfl
def b8(n:Nat):List V:=[.int .u8 (n:Int)]
structure EOk(Ks:List Knd)(X:List Itm)(e:Ent):Prop where
 m:e.x∈X
 o:okI e.x 3=true
 r:bQ Ks 12 e.x=0
 b:e.kn=false→e.b=aN Ks e.x
 c:e.kn=true→1≤e.b∧e.b≤40
set_option maxHeartbeats 1000000 in
theorem FB{h:Heap}{vI vH:V}{kb:Nat}{L:List (Nat×Nat×Nat×Nat)}{H:List Nat}(w:WF h)(a:ARecs q4 4 h vI L)(hb:∀q∈L,q.1<256∧q.2.1<256∧q.2.2.1<256∧q.2.2.2<256)
 (aH:ARecs b8 1 h vH H) (hH:∀n∈H,n<256) (hk:kb<256):
 ao go 16 [.agg [vI,vH,.int .u8 (kb:Int)]] h fun u h'=>Fr [] h h'∧∃vK Ks vX X vE,∃E:List Ent,u=.tup [.agg [vK,.int .i64 12],.agg [vE]]∧Recs Knd.cells 9 h' vK Ks∧(∀q∈Ks,KndH h' q)∧GK Ks∧okR Ks 12=true∧Ks.length=3∧
  IL h.next h' vX X∧Gs h' h.next 6 vE (E.flatMap Ent.cells)∧(∀e∈E,EOk Ks X e)∧(E.map fun e=>e.x.key).Nodup∧E.length≤12:=by
 obtain⟨h1,e_h1⟩:∃h1,h1=halloc h [vI,vH,.int .u8 (kb:Int)]:=⟨_,rfl⟩;have F_h1:Fr [] h h1:=e_h1▸Fr.halloc w _;have o_h1:Own h1 h.next [vI,vH,.int .u8 (kb:Int)]:=e_h1▸Own.new w _;obtain⟨h2,e_h2⟩:∃h2,h2=halloc h1 [.nils,.int .i64 0]:=⟨_,rfl⟩;have F_h2:Fr [] h1 h2:=e_h2▸Fr.halloc F_h1.wf _;have o_h2:Own h2 h1.next [.nils,.int .i64 0]:=e_h2▸Own.new F_h1.wf _;obtain⟨h3,e_h3⟩:∃h3,h3=halloc h2 [.nils]:=⟨_,rfl⟩;have F_h3:Fr [] h2 h3:=e_h3▸Fr.halloc F_h2.wf _;have o_h3:Own h3 h2.next [.nils]:=e_h3▸Own.new F_h2.wf _;have n1:h1.next=h.next+1:=by rw[e_h1];rfl
 have n2:h2.next=h1.next+1:=by rw[e_h2];rfl
 have n3:h3.next=h2.next+1:=by rw[e_h3];rfl
 have F13:=F_h2.then F_h3;have k2:ag h3 h.next 2=some (.int .u8 (kb:Int)):=(F13.get o_h1).ld1 2;refine ah rfl rfl ?_;simp(maxSteps:=1000000) only[fn16,evs,seval,←e_h1,←e_h2,←e_h3,k2];refine aa (yU F_h3.wf hk) ?_;rintro vK h4 ⟨F4,Ks,rkh,gk,okr,lk⟩;obtain⟨rk,kh⟩:=rkh [] h4 (by simp) (Fr.refl F4.wf);have v1:=Sl.one rk;have o4:=F4.get (F13.get o_h1);obtain⟨h5,e_h5⟩:∃h5,h5=halloc h4 [.nils,.int .i64 0]:=⟨_,rfl⟩;have F_h5:Fr [] h4 h5:=e_h5▸Fr.halloc F4.wf _;have o_h5:Own h5 h4.next [.nils,.int .i64 0]:=e_h5▸Own.new F4.wf _;have n4:=F4.next;have n5:h5.next=h4.next+1:=by rw[e_h5];rfl
 simp(maxSteps:=1000000) only[evs,seval,aB v1,←e_h5];refine ab (o:=0) (v:=.agg [vK,.int .i64 12]) (c':=[vK,.int .i64 12]) F_h5.wf o_h5 rfl (by show aq [_,_]=true;simp only[aA,aF,v1];rfl) rfl ?_;rintro h6 o6 F6 n6;have F46:Fr [] h4 h6:=F_h5.fresh F6 F4.wf (by omega);have l0:ak h6 h.next 0 1=some [vI]:=by rw[(F46.get o4).ld];rfl
 have F06:=(F_h1.then F13).then (F4.then F46);simp(maxSteps:=1000000) only[evs,seval,l0];refine aa (Fo F46.wf (a.fr F06) hb) ?_;rintro vX h7 ⟨F7,X,il,hX⟩;obtain⟨h8,e_h8⟩:∃h8,h8=halloc h7 [.nils]:=⟨_,rfl⟩;have F_h8:Fr [] h7 h8:=e_h8▸Fr.halloc F7.wf _;have o_h8:Own h8 h7.next [.nils]:=e_h8▸Own.new F7.wf _;have n7:=F7.next;have n8:h8.next=h7.next+1:=by rw[e_h8];rfl
 simp(maxSteps:=1000000) only[evs,←e_h8];have F07:=F06.then F7;have oL7:=F7.get (F46.get o4);have oK7:=F7.get o6;have FH:Fr [] h h8:=F07.then F_h8;have oa:=F_h8.get (F7.get (F46.get (F4.get (F_h3.get o_h2))));have oc:=F_h8.get (F7.get (F46.get (F4.get o_h3)));refine aC (fun n env hh=>Fr [] h7 hh∧∃(i:Nat)(vE:V)(E:List Ent),env.get 7=some (.int .i64 i)∧env.get 1=some (.ptr h.next 0)∧env.get 2=some (.ptr h1.next 0)∧env.get 3=some (.ptr h2.next 0)∧env.get 4=some (.ptr h4.next 0)∧env.get 5=some vX∧env.get 6=some (.ptr h7.next 0)∧
  i≤X.length∧Own hh h1.next [.nils,.int .i64 0]∧Own hh h2.next [.nils]∧Own hh h7.next [vE]∧Gs hh h8.next 6 vE (E.flatMap Ent.cells)∧(∀e∈E,EOk Ks X e)∧(E.map Ent.x).Sublist (X.take i)∧n=X.length-i) X.length (by omega) ?_ ?_
 ·exact⟨F_h8,0,.nils,[],(by simp),(by simp),(by simp),(by simp),(by simp),(by simp),(by simp),by omega,oa,oc,o_h8,.inl ⟨rfl,rfl⟩,by simp,by simp,rfl⟩
 ·rintro n env hh ⟨G,i,vE,E,g7,g1,g2,g3,g4,g5,g6,hi,oa,oc,oe,GE,eok,sub,rfl⟩;have ilh:=il.fr G;have len:=ilh.rs.len;have El:E.length≤i:=by
   have:=sub.length_le;simp only[List.length_map,List.length_take]at this;omega
  by_cases c1:i<X.length
  ·obtain⟨bi,oi,x,p1,_,p3,p4⟩:=Recs.ix dD ilh.rs .i64 (i:Int) (by omega) (by omega);rw[Int.toNat_natCast]at p4;have xm:=List.mem_of_getElem? p4;have kl:ak hh h4.next 0 2=some [vK,.int .i64 12]:=by rw[(G.get oK7).ld];rfl
   have Fh4:Fr [] h4 hh:=F46.then (F7.then G);simp(maxSteps:=1000000) only[evs,seval,eff,g7,g4,g5,len,show(i:Int)<X.length by omega,kl,p1,p3];refine aa (A1 G.wf (Recs.fr rk Fh4) (fun q m=>(kh q m).fr Fh4) gk (by omega) (ilh.i x xm).H) ?_;rintro _ ha ⟨Fa,e,rfl,e0,he⟩;have Ga:=G.then Fa;have kla:ak ha h4.next 0 2=some [vK,.int .i64 12]:=by rw[(Ga.get oK7).ld];rfl
   obtain⟨bi',oi',x',p1',_,p3',p4'⟩:=Recs.ix dD (il.fr Ga).rs .i64 (i:Int) (by omega) (by omega);rw[Int.toNat_natCast,p4]at p4';cases p4';rw[p1]at p1';cases p1';by_cases c2:0<e
   ·simp(maxSteps:=1000000) (disch:=omega) only[evs,seval,DF,eff,ai,g7,g4,kl,p3,eq_true c2];refine(aj _ _ _).2 ⟨X.length-(i+1),by omega,Ga,i+1,vE,E,(by simp),(by simp[g1]),(by simp[g2]),(by simp[g3]),(by simp[g4]),(by simp[g5]),(by simp[g6]),by omega,Fa.get oa,Fa.get oc,Fa.get oe,GE.fr Fa,eok,sub.trans (List.take_sublist_take_left (by omega)),rfl⟩
   ·simp(maxSteps:=1000000) only[evs,seval,DF,eff,g4,kl,p3,eq_false c2];obtain⟨okx,rex⟩:=he (by omega);have ht:x.type<Ks.length:=by
     have:=okx;simp only[okI,Bool.and_eq_true,decide_eq_true_eq]at this;exact this.2.1
    refine Cg [⟨none,.ld 2 true (.v 4),none⟩,⟨none,.p .mv [.v 5],none⟩,⟨none,.p .mv [.v 7],none⟩,⟨none,.p (.ixs 4) [.l 1,.l 0],none⟩,⟨none,.ld 4 true (.l 0),none⟩,⟨none,.cf 59 [.l 4,.l 0],none⟩] [⟨none,.st 6 (.l 0) (.l 1),none⟩] rfl ?_;obtain⟨hb,e_hb⟩:∃hb,hb=halloc ha [.int .u64 0,.int .u8 0,.str [],.nils,.int .i64 0,.bool false]:=⟨_,rfl⟩;have F_hb:Fr [] ha hb:=e_hb▸Fr.halloc Fa.wf _;have o_hb:Own hb ha.next [.int .u64 0,.int .u8 0,.str [],.nils,.int .i64 0,.bool false]:=e_hb▸Own.new Fa.wf _;have nb:hb.next=ha.next+1:=by rw[e_hb];rfl
    have na:=Ga.next;have it:∀{H},Fr [] h7 H→ak H bi oi 4=some x.cells:=by
     intro H f;obtain⟨bi',oi',x',p1',_,p3',p4'⟩:=Recs.ix dD (il.fr f).rs .i64 (i:Int) (by omega) (by omega);rw[Int.toNat_natCast,p4]at p4';cases p4';rw[p1]at p1';cases p1';exact p3'
    have kk:∀{H},Fr [] h7 H→ak H h4.next 0 2=some [vK,.int .i64 12]:=by
     intro H f;rw[(f.get oK7).ld];rfl
    have Gb:=Ga.then F_hb;simp(maxSteps:=1000000) only[evs,seval,eff,←e_hb,g7,g4,g5,kk Gb,p1,it Gb];refine aa (zf F_hb.wf (Recs.fr rk (F46.then (F7.then Gb))) ((il.fr Gb).i x xm).H ht) ?_;rintro _ hc ⟨rfl,Fc⟩;have Gc:=Gb.then Fc;simp(maxSteps:=1000000) only[evs,eff,c7,sj];refine ab (o:=0) (v:=.agg (x.ent (aN Ks x) false)) (c':=x.ent (aN Ks x) false) Fc.wf (Fc.get o_hb) rfl (by show aq (x.cells++[_,_])=true;rw[aM,((il.fr Gb).i x xm).H.one];rfl) rfl ?_;rintro hd od Fd nd;have nc:=Fc.next;have oel:=oe.lt G.wf;have nG:=Fa.next;have Fad:Fr [] ha hd:=(F_hb.then Fc).fresh Fd Fa.wf (by omega);have Gd:=Ga.then Fad;have oed:=Fad.get (Fa.get oe);have le:=oed.ld1 0;have Ed:=Gs.sl (n:=E.length) (GE.fr (Fa.then Fad)) (aG aZ E) (by omega);have oLd:=Gd.get oL7;have lH:=oLd.ld1 1;have aHd:=aH.fr (F07.then Gd);simp(maxSteps:=1000000) only[evs,seval,DF,g1,g4,g6,kk Gb,it Gb,le,Ed.len,lH,aHd.len];by_cases c3:E.length<H.length
    ·obtain⟨bh,oh,nH0,q1,q2,_,q4'⟩:=aHd.ix (f:=b8) (k:=1) (fun _=>rfl) .i64 (E.length:Int) (by omega) (by omega);rw[Int.toNat_natCast]at q4';have n256:=hH nH0 (List.mem_of_getElem? q4');have q3:ag hd bh oh=some (.int .u8 (nH0:Int)):=q2 0 (by omega);by_cases c4:0<(nH0:Int)
     ·simp(maxSteps:=1000000) (disch:=omega) only[evs,seval,ai,eq_true (show(E.length:Int)<H.length by omega),g1,q1,q3,eq_true c4,lH,pD nH0 40 40 rfl (by decide),ai];refine ab (c':=x.cells++[.int .i64 (1+((nH0%40:Nat):Int)),.bool false]) Fd.wf od rfl rfl rfl ?_;rintro he' oe'' Fe ne;simp(maxSteps:=1000000) only[evs,seval];refine ab (c':=x.cells++[.int .i64 (1+((nH0%40:Nat):Int)),.bool true]) Fe.wf oe'' rfl rfl rfl ?_;rintro hf of' Ff nf;simp(maxSteps:=1000000) only[evs,seval,g6];have FaH:=((Fad.fresh Fe Fa.wf (by omega)).fresh Ff Fa.wf (by omega));have oeH:=FaH.get (Fa.get oe);have ld6:ak hf ha.next 0 6=some (Ent.cells ⟨x,1+((nH0%40:Nat):Int),true⟩):=by rw[(of').ld];rfl
      have u1:aY [.int .u64 0,.int .u8 0,.str [],.nils,.int .i64 0,.bool false] 0 (Ent.cells ⟨x,1+((nH0%40:Nat):Int),true⟩)=some (Ent.cells ⟨x,1+((nH0%40:Nat):Int),true⟩):=rfl;have on:aq (Ent.cells ⟨x,1+((nH0%40:Nat):Int),true⟩)=true:=by show aq (x.cells++[_,_])=true;rw[aM,((il.fr Gb).i x xm).H.one];rfl
      obtain⟨hx,e_hx⟩:∃hx,hx=halloc hf (Ent.cells ⟨x,1+((nH0%40:Nat):Int),true⟩):=⟨_,rfl⟩;have F_hx:Fr [] hf hx:=e_hx▸Fr.halloc FaH.wf _;have o_hx:Own hx hf.next (Ent.cells ⟨x,1+((nH0%40:Nat):Int),true⟩):=e_hx▸Own.new FaH.wf _;simp(maxSteps:=1000000) only[evs,seval,oeH.ld1 0,ld6,u1,show(Ent.cells ⟨x,1+((nH0%40:Nat):Int),true⟩).length=6 from rfl,←e_hx];have vb0:=GE.vb;have nH:=((Fa.then FaH).then F_hx).next;have oel':=(oe.lt G.wf);have nx0:h8.next≤hx.next:=by omega
      refine Gs.append1 (bytes:=72) (n:=1) F_hx.wf (GE.fr ((Fa.then FaH).then F_hx)) (Sl.lit o_hx rfl) (by omega) (by omega) on nx0 (by rw[aG aZ E];omega) ?_;intro vE' hy Gy ey Fy;have tk:∀{B:Nat}{cs:List V},Own hh B cs→B<h8.next→Own hy B cs:=fun o l=>Fy.own _ _ (fun m=>by have:=vb0 _ m;omega) (((Fa.then FaH).then F_hx).get o);have c1':vE'.one=true:=by
       rcases Gy with⟨rfl,_⟩|⟨b,n,rfl,_⟩<;>rfl
      simp(maxSteps:=1000000) only[evs,seval,g6];refine ab (c':=[vE']) Fy.wf (tk oe (by omega)) (by rw[aB c1'];rfl) (by rw[aB c1'];simp only[aA,aF,c1'];rfl) (by rw[aB c1'];rfl) ?_;rintro hz oz Fz nz;have FN:Fr [] h7 hz:=(Fr.new F7.wf (G.then ((Fa.then FaH).then F_hx)) Fy (fun y hy=>by have:=vb0 _ hy;omega)).fresh Fz F7.wf (by omega);have eq:(E++[(⟨x,1+((nH0%40:Nat):Int),true⟩:Ent)]).flatMap Ent.cells=E.flatMap Ent.cells++Ent.cells ⟨x,1+((nH0%40:Nat):Int),true⟩:=by simp
      simp(maxSteps:=1000000) (disch:=omega) only[evs,seval,ai,g7];refine(aj _ _ _).2 ⟨X.length-(i+1),by omega,FN,i+1,vE',E++[⟨x,1+((nH0%40:Nat):Int),true⟩],(by simp),(by simp[g1]),(by simp[g2]),(by simp[g3]),(by simp[g4]),(by simp[g5]),(by simp[g6]),by omega,Fz.own _ _ (by simp;omega) (tk oa (by omega)),Fz.own _ _ (by simp;omega) (tk oc (by omega)),oz,by rw[eq];exact Gy.keep Fz (by simp;omega),?_,?_,rfl⟩
      ·intro e' m;rcases List.mem_append.1 m with m|m
       ·exact eok e' m
       ·rw[List.mem_singleton.1 m];exact⟨xm,by rw[←lk];exact okx,rex,fun z=>(by cases z),fun _=>⟨by show(1:Int)≤1+((nH0%40:Nat):Int);omega,by show 1+((nH0%40:Nat):Int)≤40;omega⟩⟩
      ·rw[List.map_append,List.take_add_one,p4];exact sub.append (List.Sublist.refl _)
     ·simp(maxSteps:=1000000) only[evs,seval,eq_true (show(E.length:Int)<H.length by omega),g6,q1,q3,eq_false c4];have FaH:=Fad;have oeH:=FaH.get (Fa.get oe);have ld6:ak hd ha.next 0 6=some (Ent.cells ⟨x,aN Ks x,false⟩):=by rw[(od).ld];rfl
      have u1:aY [.int .u64 0,.int .u8 0,.str [],.nils,.int .i64 0,.bool false] 0 (Ent.cells ⟨x,aN Ks x,false⟩)=some (Ent.cells ⟨x,aN Ks x,false⟩):=rfl;have on:aq (Ent.cells ⟨x,aN Ks x,false⟩)=true:=by show aq (x.cells++[_,_])=true;rw[aM,((il.fr Gb).i x xm).H.one];rfl
      obtain⟨hx,e_hx⟩:∃hx,hx=halloc hd (Ent.cells ⟨x,aN Ks x,false⟩):=⟨_,rfl⟩;have F_hx:Fr [] hd hx:=e_hx▸Fr.halloc FaH.wf _;have o_hx:Own hx hd.next (Ent.cells ⟨x,aN Ks x,false⟩):=e_hx▸Own.new FaH.wf _;simp(maxSteps:=1000000) only[evs,seval,oeH.ld1 0,ld6,u1,show(Ent.cells ⟨x,aN Ks x,false⟩).length=6 from rfl,←e_hx];have vb0:=GE.vb;have nH:=((Fa.then FaH).then F_hx).next;have oel':=(oe.lt G.wf);have nx0:h8.next≤hx.next:=by omega
      refine Gs.append1 (bytes:=72) (n:=1) F_hx.wf (GE.fr ((Fa.then FaH).then F_hx)) (Sl.lit o_hx rfl) (by omega) (by omega) on nx0 (by rw[aG aZ E];omega) ?_;intro vE' hy Gy ey Fy;have tk:∀{B:Nat}{cs:List V},Own hh B cs→B<h8.next→Own hy B cs:=fun o l=>Fy.own _ _ (fun m=>by have:=vb0 _ m;omega) (((Fa.then FaH).then F_hx).get o);have c1':vE'.one=true:=by
       rcases Gy with⟨rfl,_⟩|⟨b,n,rfl,_⟩<;>rfl
      simp(maxSteps:=1000000) only[evs,seval,g6];refine ab (c':=[vE']) Fy.wf (tk oe (by omega)) (by rw[aB c1'];rfl) (by rw[aB c1'];simp only[aA,aF,c1'];rfl) (by rw[aB c1'];rfl) ?_;rintro hz oz Fz nz;have FN:Fr [] h7 hz:=(Fr.new F7.wf (G.then ((Fa.then FaH).then F_hx)) Fy (fun y hy=>by have:=vb0 _ hy;omega)).fresh Fz F7.wf (by omega);have eq:(E++[(⟨x,aN Ks x,false⟩:Ent)]).flatMap Ent.cells=E.flatMap Ent.cells++Ent.cells ⟨x,aN Ks x,false⟩:=by simp
      simp(maxSteps:=1000000) (disch:=omega) only[evs,seval,ai,g7];refine(aj _ _ _).2 ⟨X.length-(i+1),by omega,FN,i+1,vE',E++[⟨x,aN Ks x,false⟩],(by simp),(by simp[g1]),(by simp[g2]),(by simp[g3]),(by simp[g4]),(by simp[g5]),(by simp[g6]),by omega,Fz.own _ _ (by simp;omega) (tk oa (by omega)),Fz.own _ _ (by simp;omega) (tk oc (by omega)),oz,by rw[eq];exact Gy.keep Fz (by simp;omega),?_,?_,rfl⟩
      ·intro e' m;rcases List.mem_append.1 m with m|m
       ·exact eok e' m
       ·rw[List.mem_singleton.1 m];exact⟨xm,by rw[←lk];exact okx,rex,fun _=>rfl,fun z=>by cases z⟩
      ·rw[List.map_append,List.take_add_one,p4];exact sub.append (List.Sublist.refl _)
    ·simp(maxSteps:=1000000) only[evs,seval,eq_false (show¬(E.length:Int)<H.length by omega),g6];have FaH:=Fad;have oeH:=FaH.get (Fa.get oe);have ld6:ak hd ha.next 0 6=some (Ent.cells ⟨x,aN Ks x,false⟩):=by rw[(od).ld];rfl
     have u1:aY [.int .u64 0,.int .u8 0,.str [],.nils,.int .i64 0,.bool false] 0 (Ent.cells ⟨x,aN Ks x,false⟩)=some (Ent.cells ⟨x,aN Ks x,false⟩):=rfl;have on:aq (Ent.cells ⟨x,aN Ks x,false⟩)=true:=by show aq (x.cells++[_,_])=true;rw[aM,((il.fr Gb).i x xm).H.one];rfl
     obtain⟨hx,e_hx⟩:∃hx,hx=halloc hd (Ent.cells ⟨x,aN Ks x,false⟩):=⟨_,rfl⟩;have F_hx:Fr [] hd hx:=e_hx▸Fr.halloc FaH.wf _;have o_hx:Own hx hd.next (Ent.cells ⟨x,aN Ks x,false⟩):=e_hx▸Own.new FaH.wf _;simp(maxSteps:=1000000) only[evs,seval,oeH.ld1 0,ld6,u1,show(Ent.cells ⟨x,aN Ks x,false⟩).length=6 from rfl,←e_hx];have vb0:=GE.vb;have nH:=((Fa.then FaH).then F_hx).next;have oel':=(oe.lt G.wf);have nx0:h8.next≤hx.next:=by omega
     refine Gs.append1 (bytes:=72) (n:=1) F_hx.wf (GE.fr ((Fa.then FaH).then F_hx)) (Sl.lit o_hx rfl) (by omega) (by omega) on nx0 (by rw[aG aZ E];omega) ?_;intro vE' hy Gy ey Fy;have tk:∀{B:Nat}{cs:List V},Own hh B cs→B<h8.next→Own hy B cs:=fun o l=>Fy.own _ _ (fun m=>by have:=vb0 _ m;omega) (((Fa.then FaH).then F_hx).get o);have c1':vE'.one=true:=by
      rcases Gy with⟨rfl,_⟩|⟨b,n,rfl,_⟩<;>rfl
     simp(maxSteps:=1000000) only[evs,seval,g6];refine ab (c':=[vE']) Fy.wf (tk oe (by omega)) (by rw[aB c1'];rfl) (by rw[aB c1'];simp only[aA,aF,c1'];rfl) (by rw[aB c1'];rfl) ?_;rintro hz oz Fz nz;have FN:Fr [] h7 hz:=(Fr.new F7.wf (G.then ((Fa.then FaH).then F_hx)) Fy (fun y hy=>by have:=vb0 _ hy;omega)).fresh Fz F7.wf (by omega);have eq:(E++[(⟨x,aN Ks x,false⟩:Ent)]).flatMap Ent.cells=E.flatMap Ent.cells++Ent.cells ⟨x,aN Ks x,false⟩:=by simp
     simp(maxSteps:=1000000) (disch:=omega) only[evs,seval,ai,g7];refine(aj _ _ _).2 ⟨X.length-(i+1),by omega,FN,i+1,vE',E++[⟨x,aN Ks x,false⟩],(by simp),(by simp[g1]),(by simp[g2]),(by simp[g3]),(by simp[g4]),(by simp[g5]),(by simp[g6]),by omega,Fz.own _ _ (by simp;omega) (tk oa (by omega)),Fz.own _ _ (by simp;omega) (tk oc (by omega)),oz,by rw[eq];exact Gy.keep Fz (by simp;omega),?_,?_,rfl⟩
     ·intro e' m;rcases List.mem_append.1 m with m|m
      ·exact eok e' m
      ·rw[List.mem_singleton.1 m];exact⟨xm,by rw[←lk];exact okx,rex,fun _=>rfl,fun z=>by cases z⟩
     ·rw[List.map_append,List.take_add_one,p4];exact sub.append (List.Sublist.refl _)
  ·have kl:ak hh h4.next 0 2=some [vK,.int .i64 12]:=by rw[(G.get oK7).ld];rfl
   have le:ak hh h7.next 0 1=some [vE]:=by rw[oe.ld];rfl
   have vE1:vE.one=true:=by
    rcases GE with⟨rfl,_⟩|⟨b,n,rfl,_⟩<;>rfl
   have Fh4:Fr [] h4 hh:=F46.then (F7.then G);have nG:=G.next;simp(maxSteps:=1000000) only[evs,seval,eff,g7,g2,g4,g5,g6,len,show¬(i:Int)<X.length by omega,kl,le];refine ab (o:=0) (v:=.agg [vK,.int .i64 12]) (c':=[vK,.int .i64 12]) G.wf oa rfl (by show aq [_,_]=true;simp only[aA,aF,v1];rfl) rfl ?_;rintro ha xa Fa na;have kla:ak ha h4.next 0 2=some [vK,.int .i64 12]:=by rw[(Fa.own _ _ (by simp;omega) (G.get oK7)).ld];rfl
   have oe':=Fa.own _ _ (by simp;omega) oe;have lea:ak ha h7.next 0 1=some [vE]:=by rw[oe'.ld];rfl
   simp(maxSteps:=1000000) only[evs,seval,eff,g3];refine ab (o:=0) (v:=.agg [vE]) (c':=[vE]) Fa.wf (Fa.own _ _ (by simp;omega) oc) rfl (by show aq [_]=true;simp only[aA,aF,vE1];rfl) rfl ?_;rintro hz xz Fz nz;have r1:ak hz h1.next 0 2=some [vK,.int .i64 12]:=by rw[(Fz.own _ _ (by simp;omega) xa).ld];rfl
   have r2:ak hz h2.next 0 1=some [vE]:=by rw[xz.ld];rfl
   simp(maxSteps:=1000000) only[evs,seval,DF,g2,g3,g4,g6,kl,le,lea,r1,r2];have Fh4a:Fr [h1.next] h4 ha:=Fr.trans Fh4 Fa F4.wf (by simp) (fun x m=>.inl m);have Fh4z:Fr [h1.next,h2.next] h4 hz:=Fr.trans Fh4a Fz F4.wf (by simp) (fun x m=>.inl (by simp at m⊢;exact .inr m));obtain⟨rz,kz⟩:=rkh _ hz (by simp;omega) Fh4z;have FN:Fr [] h hz:=((F07.then G).fresh Fa w (by omega)).fresh Fz w (by omega);have ilz:=((il.fr G).keep Fa (by simp;omega)).keep Fz (by simp;omega);have Gz:=((GE.keep Fa (by simp;omega)).keep Fz (by simp;omega)).le (C:=h.next) (by omega);refine⟨FN,vK,Ks,vX,X,vE,E,rfl,rz,kz,gk,okr,lk,ilz.le (by omega),Gz,eok,?_,by omega⟩;have:=(sub.trans (List.take_sublist _ _)).map Itm.key;rw[List.map_map]at this;exact this.nodup il.n
def IxOf(m:Nat→Option Nat)(E:List Ent):Prop:=∀k j,m k=some j↔∃e,E[j]? =some e∧e.x.key=k
def okZ(E:List Ent):Prop:=∀e∈E,1≤e.b∧e.b≤2305843009213693952
theorem okZ.sum_nn:∀{E:List Ent},okZ E→0≤(E.map Ent.b).sum
 |[],_=>by simp
 |e::E,h=>by
  have h1:=h e (by simp);have h2:=okZ.sum_nn (E:=E) fun x m=>h x (by simp[m]);simp only[List.map_cons,List.sum_cons];omega
theorem okZ.take{E:List Ent}(h:okZ E)(i:Nat):okZ (E.take i):=fun e m=>h e (List.mem_of_mem_take m)
theorem okZ.drop{E:List Ent}(h:okZ E)(i:Nat):okZ (E.drop i):=fun e m=>h e (List.mem_of_mem_drop m)
theorem okZ.split{E:List Ent}(i:Nat):(E.map Ent.b).sum=((E.take i).map Ent.b).sum+((E.drop i).map Ent.b).sum:=by
 rw[←List.sum_append,←List.map_append,List.take_append_drop]
theorem Ah{E:List Ent}{i:Nat}{e:Ent}(h:E[i]? =some e):((E.take (i+1)).map Ent.b).sum=((E.take i).map Ent.b).sum+e.b:=by
 rw[List.take_add_one,h];simp
theorem pM:∀(d:List V)(o:Nat),aY d o []=some d
 |[],o=>fU o
 |x::l,0=>cN x l
 |x::l,o+1=>by rw[aX,pM l o];rfl
theorem iW(d:List V):∀(c:List V)(o:Nat)(vs c':List V),aY c o vs=some c'→aY (c++d) o vs=some (c'++d)
 |[],o,[],c',e=>by rw[fU]at e;cases e;exact pM d o
 |[],o,v::vs,c',e=>by rw[jF]at e;cases e
 |x::l,0,[],c',e=>by rw[cN]at e;cases e;rfl
 |x::l,0,v::vs,c',e=>by
  rw[aQ]at e;cases q:aY l 0 vs with
  |none=>rw[q]at e;cases e
  |some r=>rw[q]at e;cases e;rw[List.cons_append,aQ,iW d l 0 vs r q];rfl
 |x::l,o+1,vs,c',e=>by
  rw[aX]at e;cases q:aY l o vs with
  |none=>rw[q]at e;cases e
  |some r=>rw[q]at e;cases e;rw[List.cons_append,aX,iW d l o vs r q];rfl
theorem jQ(d:List V)(o:Nat)(vs d':List V)(e:aY d o vs=some d'):∀(c:List V),aY (c++d) (c.length+o) vs=some (c++d')
 |[]=>by simpa using e
 |x::l=>by
  rw[List.cons_append,List.length_cons,show l.length+1+o=(l.length+o)+1 by omega,aX,jQ d o vs d' e l];rfl
theorem lK{α:Type}{f:α→List V}{k:Nat}(hf:∀x,(f x).length=k){y:α}{o:Nat}{vs:List V}:∀(L:List α)(i:Nat)(x:α),L[i]? =some x→aY (f x) o vs=some (f y)→aY (L.flatMap f) (i*k+o) vs=some ((L.set i y).flatMap f)
 |z::L,0,x,h,e=>by
  simp at h;subst h;rw[List.flatMap_cons,Nat.zero_mul,Nat.zero_add,List.set_cons_zero,List.flatMap_cons];exact iW _ _ _ _ _ e
 |z::L,i+1,x,h,e=>by
  rw[List.flatMap_cons,List.set_cons_succ,List.flatMap_cons,show(i+1) *k+o=(f z).length+(i*k+o) by rw[hf,Nat.succ_mul];omega];exact jQ _ _ _ _ (lK hf L i x (by simpa using h) e) _
theorem _root_.Go.Ev.Gs.ptr{h:Heap}{B e:Nat}{v:V}{cs:List V}{n:Nat}(g:Gs h B e v cs)(hn:cs.length=n*e)(he:0<e){i:Nat}(hi:i<n):∃b,vb v=[b]∧B≤b∧Own h b cs∧(∀k,aP (.ixs e) [v,.int k (i:Int)]=some (.ptr b (i*e)))∧∀h' c',Own h' b c'→c'.length=cs.length→Gs h' B e v c':=by
 rcases g with⟨rfl,rfl⟩|⟨b,m,rfl,h1,h2,h3,o⟩
 ·have h0:0=n*e:=hn;have:=Nat.mul_pos (show 0<n by omega) he;omega
 ·have:m=n:=Nat.eq_of_mul_eq_mul_right he (by omega);subst this;refine⟨b,rfl,h3,o,fun k=>?_,fun h' c' o' hl=>.inr ⟨b,m,rfl,by omega,h2,h3,o'⟩⟩;rw[kg _ _ _ _ _ _ _ (by omega) (by omega)];simp
theorem Ent.upd_b(e:Ent)(s:Int):aY e.cells 4 [.int .i64 s]=some (Ent.cells ⟨e.x,s,e.kn⟩):=rfl
theorem mP{h:Heap}{e:Ent}(a:ItmH h e.x):aq e.cells=true:=by
 show aq (e.x.cells++[_,_])=true;rw[aM,a.one];rfl
theorem IxOf.same{m:Nat→Option Nat}{E E':List Ent}(ix:IxOf m E)(e:E'.map Ent.x=E.map Ent.x):IxOf m E':=by
 intro k j;rw[ix k j];have:=congrArg (fun l=>l[j]?) e;simp only[List.getElem?_map]at this;constructor
 ·rintro⟨a,h1,h2⟩;rw[h1]at this;cases q:E'[j]? with
  |none=>rw[q]at this;cases this
  |some b=>rw[q]at this;exact⟨b,rfl,by rw[←h2,Option.some.inj this]⟩
 ·rintro⟨a,h1,h2⟩;rw[h1]at this;cases q:E[j]? with
  |none=>rw[q]at this;cases this
  |some b=>rw[q]at this;exact⟨b,rfl,by rw[←h2,←Option.some.inj this]⟩
def Itm.val(x:Itm):Nat×Nat×Str×List Str:=(x.key,x.type,x.text,x.marks)
def Ent.val(e:Ent):(Nat×Nat×Str×List Str)×Int×Bool:=(e.x.val,e.b,e.kn)
theorem FJ{h:Heap}{va vb:V}{L:List Str}(a:ARecs sS 1 h va L)(b:ARecs sS 1 h vb L)(hn:L.length≤4096):ao go 191 [va,vb] h fun u h'=>u=.bool true∧h=h':=by
 refine ah rfl rfl ?_;simp only[fn191,evs,seval,a.len,b.len];refine aC (fun n env hh=>h=hh∧∃i:Nat,env.get 13=some (.int .i64 i)∧env.get 12=some (.int .i64 L.length)∧env.get 0=some va∧env.get 1=some vb∧i≤L.length∧n=L.length-i) L.length (by omega) ?_ ?_
 ·exact⟨rfl,0,(by simp),(by simp),(by simp),(by simp),by omega,rfl⟩
 ·rintro n env hh ⟨rfl,i,g13,g12,g0,g1,hi,rfl⟩;by_cases c:i<L.length
  ·obtain⟨b1,o1,s1,p1,p2,_,p4⟩:=a.ix dW .i64 (i:Int) (by omega) (by omega);obtain⟨b2,o2,s2,q1,q2,_,q4⟩:=b.ix dW .i64 (i:Int) (by omega) (by omega);rw[p4]at q4;cases q4;have x1:ag h b1 o1=some (.str s1):=p2 0 (by omega);have x2:ag h b2 o2=some (.str s1):=q2 0 (by omega);simp(disch:=omega) only[evs,seval,DF,eff,ai,g13,g12,g0,g1,show(i:Int)<L.length by omega,p1,q1,x1,x2,aS,beq_self_eq_true];refine(aj _ _ _).2 ⟨L.length-(i+1),by omega,rfl,i+1,(by simp),(by simp[g12]),(by simp[g0]),(by simp[g1]),by omega,rfl⟩
  ·simp only[evs,seval,g13,g12,show¬(i:Int)<L.length by omega]
theorem Itm.val_eq{x y:Itm}(e:x.val=y.val):x.key=y.key∧x.type=y.type∧x.text=y.text∧x.marks=y.marks:=by
 simp only[Itm.val,Prod.mk.injEq]at e;exact e
theorem Am{h:Heap}{x y:Itm}(w:WF h)(a:ItmH h x)(b:ItmH h y)(e:x.val=y.val):ao go 120 [.agg x.cells,.agg y.cells] h fun u h'=>u=.bool true∧Fr [] h h':=by
 obtain⟨e1,e2,e3,e4⟩:=Itm.val_eq e;obtain⟨h1,e_h1⟩:∃h1,h1=halloc h x.cells:=⟨_,rfl⟩;have F_h1:Fr [] h h1:=e_h1▸Fr.halloc w _;have o_h1:Own h1 h.next x.cells:=e_h1▸Own.new w _;obtain⟨h2,e_h2⟩:∃h2,h2=halloc h1 y.cells:=⟨_,rfl⟩;have F_h2:Fr [] h1 h2:=e_h2▸Fr.halloc F_h1.wf _;have o_h2:Own h2 h1.next y.cells:=e_h2▸Own.new F_h1.wf _;have F:=F_h1.then F_h2;have o1:=F_h2.get o_h1;have x0:ag h2 h.next 0=some (.int .u64 (x.key:Int)):=o1.ld1 0;have x1:ag h2 h.next 1=some (.int .u8 (x.type:Int)):=o1.ld1 1;have x2:ag h2 h.next 2=some (.str x.text):=o1.ld1 2;have x3:ag h2 h.next 3=some x.vm:=o1.ld1 3;have y0:ag h2 h1.next 0=some (.int .u64 (x.key:Int)):=by rw[e1];exact o_h2.ld1 0
 have y1:ag h2 h1.next 1=some (.int .u8 (x.type:Int)):=by rw[e2];exact o_h2.ld1 1
 have y2:ag h2 h1.next 2=some (.str x.text):=by rw[e3];exact o_h2.ld1 2
 have y3:ag h2 h1.next 3=some y.vm:=o_h2.ld1 3;refine ah rfl rfl ?_;simp only[fn120,evs,seval,←e_h1,←e_h2,x0,x1,x2,x3,y0,y1,y2,y3,aI,beq_self_eq_true];refine aa (FJ (a.m.fr F) (by rw[e4];exact b.m.fr F) a.n) ?_;rintro _ _ ⟨rfl,rfl⟩;simp only[evs,seval];exact F
theorem An{h:Heap}{x y:Ent}(w:WF h)(a:ItmH h x.x)(b:ItmH h y.x)(e:x.val=y.val):ao go 119 [.agg x.cells,.agg y.cells] h fun u h'=>u=.bool true∧Fr [] h h':=by
 simp only[Ent.val,Prod.mk.injEq]at e;obtain⟨e1,e2,e3⟩:=e;obtain⟨h1,e_h1⟩:∃h1,h1=halloc h x.cells:=⟨_,rfl⟩;have F_h1:Fr [] h h1:=e_h1▸Fr.halloc w _;have o_h1:Own h1 h.next x.cells:=e_h1▸Own.new w _;obtain⟨h2,e_h2⟩:∃h2,h2=halloc h1 y.cells:=⟨_,rfl⟩;have F_h2:Fr [] h1 h2:=e_h2▸Fr.halloc F_h1.wf _;have o_h2:Own h2 h1.next y.cells:=e_h2▸Own.new F_h1.wf _;have F:=F_h1.then F_h2;have o1:=F_h2.get o_h1;have x4:ag h2 h.next 4=some (.int .i64 x.b):=o1.ld1 4;have x5:ag h2 h.next 5=some (.bool x.kn):=o1.ld1 5;have y4:ag h2 h1.next 4=some (.int .i64 x.b):=by rw[e2];exact o_h2.ld1 4
 have y5:ag h2 h1.next 5=some (.bool x.kn):=by rw[e3];exact o_h2.ld1 5
 have lx:ak h2 h.next 0 4=some x.x.cells:=by rw[o1.ld];rfl
 have ly:ak h2 h1.next 0 4=some y.x.cells:=by rw[o_h2.ld];rfl
 refine ah rfl rfl ?_;simp only[fn119,evs,seval,←e_h1,←e_h2,x4,x5,y4,y5,lx,ly];refine aa (Am F_h2.wf (a.fr F) (b.fr F) e1) ?_;rintro _ h3 ⟨rfl,F3⟩;simp only[evs,seval];exact F.then F3
theorem FM{h:Heap}{va vb:V}{Z E:List Ent}(w:WF h)(a:Recs Ent.cells 6 h va Z)(b:Recs Ent.cells 6 h vb E)(za:∀z∈Z,ItmH h z.x)(ea:∀e∈E,ItmH h e.x)(eq:Z.map Ent.val=E.map Ent.val)(hn:E.length≤4096):
 ao go 118 [va,vb,.func (.func 119) [] []] h fun u h'=>u=.bool true∧Fr [] h h':=by
 have ln:Z.length=E.length:=by have:=congrArg List.length eq;simpa using this
 have la:=a.len;rw[ln]at la;refine ah rfl rfl ?_;simp only[fn118,evs,seval,la,b.len];refine aC (fun n env hh=>Fr [] h hh∧∃i:Nat,env.get 17=some (.int .i64 i)∧env.get 16=some (.int .i64 E.length)∧env.get 15=some va∧env.get 1=some vb∧env.get 2=some (.func (.func 119) [] [])∧i≤E.length∧n=E.length-i) E.length (by omega) ?_ ?_
 ·exact⟨Fr.refl w,0,(by simp),(by simp),(by simp),(by simp),(by simp),by omega,rfl⟩
 ·rintro n env hh ⟨F,i,g17,g16,g15,g1,g2,hi,rfl⟩;by_cases c:i<E.length
  ·obtain⟨b1,o1,z,p1,_,p3,p4⟩:=(a.fr F).ix aZ .i64 (i:Int) (by omega) (by omega);rw[Int.toNat_natCast]at p4;have zm:=List.mem_of_getElem? p4;have az:=(za z zm).fr F;obtain⟨h3,e_h3⟩:∃h3,h3=halloc hh [.int .u64 0,.int .u8 0,.str [],.nils,.int .i64 0,.bool false]:=⟨_,rfl⟩;have F_h3:Fr [] hh h3:=e_h3▸Fr.halloc F.wf _;have o_h3:Own h3 hh.next [.int .u64 0,.int .u8 0,.str [],.nils,.int .i64 0,.bool false]:=e_h3▸Own.new F.wf _;simp only[evs,seval,g17,g16,g15,show(i:Int)<E.length by omega,p1,p3,←e_h3];refine ab (c':=z.cells) F_h3.wf o_h3 rfl (mP az) rfl ?_;rintro h4 o4 F4 n4;have F04:Fr [] hh h4:=F_h3.fresh F4 F.wf (Nat.le_refl _);obtain⟨b2,o2,e,q1,_,q3,q4⟩:=(b.fr (F.then F04)).ix aZ .i64 (i:Int) (by omega) (by omega);rw[Int.toNat_natCast]at q4;have em:=List.mem_of_getElem? q4;have ae:=(ea e em).fr (F.then F04);obtain⟨h5,e_h5⟩:∃h5,h5=halloc h4 [.int .u64 0,.int .u8 0,.str [],.nils,.int .i64 0,.bool false]:=⟨_,rfl⟩;have F_h5:Fr [] h4 h5:=e_h5▸Fr.halloc F4.wf _;have o_h5:Own h5 h4.next [.int .u64 0,.int .u8 0,.str [],.nils,.int .i64 0,.bool false]:=e_h5▸Own.new F4.wf _;simp only[evs,seval,g1,q1,q3,←e_h5];refine ab (c':=e.cells) F_h5.wf o_h5 rfl (mP ae) rfl ?_;rintro h6 o6 F6 n6;have F46:Fr [] h4 h6:=F_h5.fresh F6 F4.wf (Nat.le_refl _);have lz:ak h6 hh.next 0 6=some z.cells:=by rw[(F46.get o4).ld];rfl
   have le:ak h6 h4.next 0 6=some e.cells:=by rw[o6.ld];rfl
   have ev:z.val=e.val:=by
    have:=congrArg (fun l=>l[i]?) eq;simp only[List.getElem?_map,p4,q4,Option.map_some]at this;exact Option.some.inj this
   have big:119<1099511627776:=by omega
   simp only[evs,seval,g2,lz,le,big];refine aa (An F6.wf (az.fr (F04.then F46)) (ae.fr F46) ev) ?_;rintro _ h7 ⟨rfl,F7⟩;simp(disch:=omega) only[evs,seval,ai,g17];refine(aj _ _ _).2 ⟨E.length-(i+1),by omega,F.then (F04.then (F46.then F7)),i+1,(by simp),(by simp[g16]),(by simp[g15]),(by simp[g1]),(by simp[g2]),by omega,rfl⟩
  ·simp only[evs,seval,g17,g16,show¬(i:Int)<E.length by omega];exact F
theorem Al{h:Heap}{va vb:V}{Z E:List Ent}(w:WF h)(a:Recs Ent.cells 6 h va Z)(b:Recs Ent.cells 6 h vb E)(za:∀z∈Z,ItmH h z.x)(ea:∀e∈E,ItmH h e.x)(eq:Z.map Ent.val=E.map Ent.val)(hn:E.length≤4096):
 ao go 61 [.agg [va],.agg [vb]] h fun u h'=>u=.bool true∧Fr [] h h':=by
 have v1:va.one=true:=Sl.one a;have v2:vb.one=true:=Sl.one b;obtain⟨h1,e_h1⟩:∃h1,h1=halloc h [va]:=⟨_,rfl⟩;have F_h1:Fr [] h h1:=e_h1▸Fr.halloc w _;have o_h1:Own h1 h.next [va]:=e_h1▸Own.new w _;obtain⟨h2,e_h2⟩:∃h2,h2=halloc h1 [vb]:=⟨_,rfl⟩;have F_h2:Fr [] h1 h2:=e_h2▸Fr.halloc F_h1.wf _;have o_h2:Own h2 h1.next [vb]:=e_h2▸Own.new F_h1.wf _;have F:=F_h1.then F_h2;have x0:ag h2 h.next 0=some va:=(F_h2.get o_h1).ld1 0;have y0:ag h2 h1.next 0=some vb:=o_h2.ld1 0;refine ah rfl rfl ?_;simp only[fn61,evs,seval,←e_h1,←e_h2,x0,y0];refine aa (FM F_h2.wf (a.fr F) (b.fr F) (fun z m=>(za z m).fr F) (fun z m=>(ea z m).fr F) eq hn) ?_;rintro _ h3 ⟨rfl,F3⟩;simp only[evs,seval];exact F.then F3
def E0:List V:=[.int .u64 0,.int .u8 0,.str [],.nils,.int .i64 0,.bool false]
theorem Bg{Z:List Ent}{z:Ent}{n i:Nat}(hZ:Z.length=i)(hi:i<n):aY (Z.flatMap Ent.cells++bu E0 (n-i)) (i*6) z.cells=some ((Z++[z]).flatMap Ent.cells++bu E0 (n-(i+1))):=by
 have l:(Z.flatMap Ent.cells).length=i*6:=by rw[aG aZ,hZ]
 rw[show n-i=n-(i+1)+1 by omega,dX,←l,←Nat.add_zero (Z.flatMap Ent.cells).length,jQ (E0++bu E0 (n-(i+1))) 0 z.cells (z.cells++bu E0 (n-(i+1))) (iW _ _ _ _ _ rfl),List.flatMap_append];simp
theorem LoP.kl{h:Heap}{b:Nat}{pm:Option Nat}{l:List Int}{ks bs:List Bool}(a:LoP h b pm l ks bs):ks.length=l.length∧Fit l:=by
 obtain⟨p,vk,o,v1,ix,mk,e⟩:=a;exact⟨ix.len.1,ix.fit⟩
theorem qw{α:Type}{l:List α}{i:Nat}(d:α)(h:i<l.length):l.take (i+1)=l.take i++[l.getD i d]:=by
 rw[List.take_add_one,List.getD_eq_getElem?_getD,List.getElem?_eq_getElem h];rfl
def LsO(N:Nat)(h:Heap)(v:V)(Z:List Ent):Prop:=(Z=[]∧v=.nils)∨∃b,v=.slice b 0 Z.length Z.length∧N≤b∧Own h b (Z.flatMap Ent.cells)∧∀z∈Z,CpO (b+1) h z.x.vm z.x.marks
theorem CpO.le{N M:Nat}{h:Heap}{v:V}{L:List (List UInt8)}(a:CpO N h v L)(l:M≤N):CpO M h v L:=by
 rcases a with⟨e,rfl|⟨b,rfl,hb,o⟩⟩|⟨b,e,hb,o⟩
 ·exact .inl ⟨e,.inl rfl⟩
 ·exact .inl ⟨e,.inr ⟨b,rfl,by omega,o⟩⟩
 ·exact .inr ⟨b,e,by omega,o⟩
theorem LsO.rs{N:Nat}{h:Heap}{v:V}{Z:List Ent}(a:LsO N h v Z):Recs Ent.cells 6 h v Z:=by
 rcases a with⟨rfl,rfl⟩|⟨b,rfl,_,o,_⟩
 ·exact Recs.nil
 ·exact Sl.lit o (aG aZ Z)
theorem pY{n0:Nat}{h:Heap}{b bg B bm S bl:Nat}{Ks:List Knd}{cap:Int}{X:List Itm}{l:List Int}{kn st:List Bool}{vK:V}{pm:Option Nat}{mc:ew}(w:WF h)(s:Sto n0 h b Ks cap X l kn st vK bg B bm S bl pm mc)(nz:∀x∈X,nZ x.vm=true)(hx:X.length≤1024):
 ao go 30 [.ptr b 0] h fun u h'=>Fr [] h h'∧∃v Z,u=.agg [v]∧LsO h.next h' v Z∧Z.map (fun z=>z.x.val)=X.map Itm.val∧Z.map Ent.b=l∧Z.map Ent.kn=kn∧∀z∈Z,ItmH h' z.x:=by
 have kl:=s.lo.kl.1;have ll:=s.len;obtain⟨h1,e_h1⟩:∃h1,h1=halloc h [.nils]:=⟨_,rfl⟩;have F_h1:Fr [] h h1:=e_h1▸Fr.halloc w _;have o_h1:Own h1 h.next [.nils]:=e_h1▸Own.new w _;obtain⟨h2,e_h2⟩:∃h2,h2=halloc h1 [.nils]:=⟨_,rfl⟩;have F_h2:Fr [] h1 h2:=e_h2▸Fr.halloc F_h1.wf _;have o_h2:Own h2 h1.next [.nils]:=e_h2▸Own.new F_h1.wf _;have n1:h1.next=h.next+1:=by rw[e_h1];rfl
 have n2:h2.next=h1.next+1:=by rw[e_h2];rfl
 refine ah rfl rfl ?_;simp only[fn30,evs,seval,←e_h1,←e_h2];refine ab (o:=0) (v:=.agg [.nils]) (c':=[.nils]) F_h2.wf o_h2 rfl rfl rfl ?_;rintro h3 o3 F3 n3;have F03:Fr [] h h3:=(F_h1.then F_h2).fresh F3 w (by omega);have o13:=F3.own _ _ (by simp;omega) (F_h2.get o_h1);have s3:=s.fr w F03;simp only[evs,seval];refine aa (ko s3) ?_;rintro _ _ ⟨rfl,rfl⟩;by_cases c0:X.length=0
 ·have l3:ak h3 h1.next 0 1=some [.nils]:=by rw[o3.ld];rfl
  simp only[evs,seval,eq_true (show((X.length:Nat):Int)=0 by omega),l3];refine ab (o:=0) (v:=.agg [.nils]) (c':=[.nils]) F3.wf o13 rfl rfl rfl ?_;rintro h4 o4 F4 n4;have l4:ak h4 h.next 0 1=some [.nils]:=by rw[o4.ld];rfl
  simp only[evs,seval,l4];have e1:X=[]:=List.length_eq_zero_iff.1 c0;have e2:l=[]:=List.length_eq_zero_iff.1 (by omega);have e3:kn=[]:=List.length_eq_zero_iff.1 (by omega);subst e1 e2 e3;exact⟨F03.fresh F4 w (by omega),.nils,[],rfl,.inl ⟨rfl,rfl⟩,rfl,rfl,rfl,by simp⟩
 simp only[evs,seval,eq_false (show¬((X.length:Nat):Int)=0 by omega)];refine aa (ko s3) ?_;rintro _ _ ⟨rfl,rfl⟩;simp only[evs];refine(gw _ _ _ _ _ _ _ _ (by omega) (by omega) (by omega) (by omega)).2 ?_;simp only[Int.toNat_natCast];obtain⟨h4,e_h4⟩:∃h4,h4=halloc h3 (bu [.int .u64 0,.int .u8 0,.str [],.nils,.int .i64 0,.bool false] X.length):=⟨_,rfl⟩;have F_h4:Fr [] h3 h4:=e_h4▸Fr.halloc F3.wf _;have o4:Own h4 h3.next (bu E0 X.length):=e_h4▸Own.new F3.wf _;have n4:h4.next=h3.next+1:=by rw[e_h4];rfl
 rw[←e_h4];clear e_h4;simp only[evs,seval];refine ab (o:=0) (c':=[.slice h3.next 0 X.length X.length]) F_h4.wf (F_h4.get o3) rfl rfl rfl ?_;rintro h5 o5 F5 n5;have F05:Fr [] h h5:=(F03.then F_h4).fresh F5 w (by omega);have s5:=s.fr w F05;have b2:ag h5 b 2=some (.ptr bg 0):=s5.ob.ld1 2;have bn:=s.ob.lt w;have o45:=F5.own _ _ (by simp;omega) o4;simp only[evs,seval,b2];refine aa (Ba F5.wf s5.g) ?_;rintro vG h6 ⟨b',hb',tb,F6⟩;have n6:=F6.next;simp only[evs,seval,tb.len];refine aC (fun n env hh=>Fr [h3.next] h6 hh∧∃(i:Nat)(Z:List Ent),env.get 25=some (.int .i64 i)∧env.get 24=some (.int .i64 X.length)∧env.get 23=some vG∧env.get 3=some (.ptr h1.next 0)∧env.get 2=some (.ptr h.next 0)∧env.get 0=some (.ptr b 0)∧i≤X.length∧Z.length=i∧
  Own hh h3.next (Z.flatMap Ent.cells++bu E0 (X.length-i))∧Z.map (fun z=>z.x.val)=(X.take i).map Itm.val∧Z.map Ent.b=l.take i∧Z.map Ent.kn=kn.take i∧(∀z∈Z,CpO h6.next hh z.x.vm z.x.marks∧∀H,CpO h6.next H z.x.vm z.x.marks→ItmH H z.x)∧n=X.length-i) X.length (by omega) ?_ ?_
 ·exact⟨Fr.refl F6.wf,0,[],(by simp),(by simp),(by simp),(by simp),(by simp),(by simp),by omega,rfl,F6.get o45,rfl,rfl,rfl,by simp,rfl⟩
 ·rintro n env hh ⟨F,i,Z,g25,g24,g23,g3,g2,g0,hi,zl,oo,zv,zb,zk,zi,rfl⟩;have nF:=F.next;have F0h:Fr [] h hh:=Fr.new w (F05.then F6) F (by simp;omega);have sh:=s.fr w F0h;have o3h:Own hh h1.next [.slice h3.next 0 X.length X.length]:=F.own _ _ (by simp;omega) (F6.get o5);have o2h:Own hh h.next [.nils]:=F.own _ _ (by simp;omega) (F6.get (F5.own _ _ (by simp;omega) (F_h4.get o13)));have rs:Recs Itm.cells 4 hh vG X:=(tb.fr F (by simp;omega)).sl;by_cases c:i<X.length
  ·have hc:(0:Int)≤(i:Int)∧(i:Int)<((l.length:Nat):Int):=by omega
   obtain⟨bi,oi,x,p1,_,p3,p4⟩:=rs.ix dD .i64 (i:Int) (by omega) (by omega);rw[Int.toNat_natCast]at p4;have xm:=List.mem_of_getElem? p4;have ax:=(sh.rd [] hh (by simp) (Fr.refl F.wf)).2.2 x xm;obtain⟨ha,e_ha⟩:∃ha,ha=halloc hh [.int .u64 0,.int .u8 0,.str [],.nils]:=⟨_,rfl⟩;have F_ha:Fr [] hh ha:=e_ha▸Fr.halloc F.wf _;have o_ha:Own ha hh.next [.int .u64 0,.int .u8 0,.str [],.nils]:=e_ha▸Own.new F.wf _;simp only[evs,seval,g25,g24,g23,show(i:Int)<X.length by omega,p1,p3,←e_ha];refine ab (c':=x.cells) F_ha.wf o_ha rfl ax.one rfl ?_;rintro hb ob Fb nb;have Fhb:Fr [] hh hb:=F_ha.fresh Fb F.wf (Nat.le_refl _);have sb:=sh.fr F.wf Fhb;have b4:ag hb b 4=some (.ptr bl 0):=sb.ob.ld1 4;simp only[evs,seval,g0,b4];refine aa (CA Fb.wf sb.lo.lo) ?_;rintro _ hc1 ⟨rfl,Fc⟩;rw[if_pos hc,Int.toNat_natCast];have sc:=sb.fr Fb.wf Fc;have b4c:ag hc1 b 4=some (.ptr bl 0):=sc.ob.ld1 4;simp only[evs,seval,g0,b4c];refine aa (zX Fc.wf sc.lo.lo) ?_;rintro _ hd ⟨rfl,Fd⟩;rw[if_pos hc,Int.toNat_natCast];have Fhd:Fr [] hh hd:=Fhb.then (Fc.then Fd);have x4:ak hd hh.next 0 4=some x.cells:=by rw[((Fc.then Fd).get ob).ld];rfl
   have d3:ag hd h1.next 0=some (.slice h3.next 0 X.length X.length):=(Fhd.get o3h).ld1 0;simp only[evs,seval,eff,g3,x4,d3];refine aa (j7 Fd.wf (ax.fr Fhd) (nz x xm)) ?_;rintro _ he ⟨vy,rfl,Fe,cpo⟩;have v1:=cpo.one;have Fhe:=Fhd.then Fe;have e3:ag he h1.next 0=some (.slice h3.next 0 X.length X.length):=(Fhe.get o3h).ld1 0;have px:aP (.ixs 6) [.slice h3.next 0 X.length X.length,.int .i64 (i:Int)]=some (.ptr h3.next (i*6)):=by rw[fC _ _ _ _ _ _ _ (by omega) (by omega)];simp
   have oe:=Fhe.get oo;have on:aq (Ent.cells ⟨x.own vy,l.getD i 0,kn.getD i false⟩)=true:=by
    show aq [.int .u64 (x.key:Int),.int .u8 (x.type:Int),.str x.text,vy,.int .i64 _,.bool _]=true;simp only[aA,aF,v1];rfl
   simp only[evs,seval,eff,px,dY];refine ab (v:=.agg (Ent.cells ⟨x.own vy,l.getD i 0,kn.getD i false⟩)) Fe.wf oe rfl on (Bg zl c) ?_;rintro hf of' Ff nf;have FN:Fr [h3.next] h6 hf:=Fr.trans (Fr.trans (T:=[h3.next]) F Fhe F6.wf (fun x m=>.inl m) (by simp)) Ff F6.wf (fun x m=>.inl m) (fun x m=>.inl m);have nhe:=Fhe.next;have nhd:=Fhd.next;have stz:∀z∈Z++[(⟨x.own vy,l.getD i 0,kn.getD i false⟩:Ent)],CpO h6.next hf z.x.vm z.x.marks∧∀H,CpO h6.next H z.x.vm z.x.marks→ItmH H z.x:=by
    intro z m;rcases List.mem_append.1 m with m|m
    ·obtain⟨c1,c2⟩:=zi z m;exact⟨(c1.fr Fhe (by simp)).fr Ff (by simp;omega),c2⟩
    ·rw[List.mem_singleton.1 m];exact⟨(cpo.le (by omega)).fr Ff (by simp;omega),fun H c=>⟨ax.k,ax.t,Sl.a c.rs,ax.n,ax.l⟩⟩
   simp(disch:=omega) only[evs,seval,DF,ai,g25,x4,d3,e3];refine(aj _ _ _).2 ⟨X.length-(i+1),by omega,FN,i+1,Z++[⟨x.own vy,l.getD i 0,kn.getD i false⟩],(by simp),(by simp[g24]),(by simp[g23]),(by simp[g3]),(by simp[g2]),(by simp[g0]),by omega,by simp[zl],of',?_,?_,?_,stz,rfl⟩
   ·rw[List.take_add_one,p4,List.map_append,List.map_append,zv];rfl
   ·rw[qw 0 (by omega),List.map_append,zb];rfl
   ·rw[qw false (by omega),List.map_append,zk];rfl
  ·have e:i=X.length:=by omega
   subst e;rw[List.take_of_length_le (by omega)]at zv zb zk;have z0:bu E0 (X.length-X.length)=[]:=by rw[Nat.sub_self];rfl
   rw[z0,List.append_nil]at oo;have l3:ak hh h1.next 0 1=some [.slice h3.next 0 X.length X.length]:=by rw[o3h.ld];rfl
   simp only[evs,seval,g25,g24,g3,g2,show¬(X.length:Int)<X.length by omega,l3];refine ab (o:=0) (v:=.agg [.slice h3.next 0 X.length X.length]) (c':=[.slice h3.next 0 X.length X.length]) F.wf o2h rfl rfl rfl ?_;rintro hz oz Fz nz;have lz:ak hz h.next 0 1=some [.slice h3.next 0 X.length X.length]:=by rw[oz.ld];rfl
   simp only[evs,seval,lz,g2];have ooz:=Fz.own _ _ (by simp;omega) oo;have cz:∀z∈Z,CpO h6.next hz z.x.vm z.x.marks:=fun z m=>(zi z m).1.fr Fz (by simp;omega);refine⟨F0h.fresh Fz w (by omega),_,Z,rfl,.inr ⟨h3.next,by rw[zl],by omega,ooz,fun z m=>(cz z m).le (by omega)⟩,zv,zb,zk,fun z m=>(zi z m).2 hz (cz z m)⟩
theorem Ap{n0:Nat}{h:Heap}{b bg B bm S bl:Nat}{Ks:List Knd}{cap:Int}{X:List Itm}{l:List Int}{kn st:List Bool}{vK:V}{pm:Option Nat}{mc:ew}(w:WF h)(s:Sto n0 h b Ks cap X l kn st vK bg B bm S bl pm mc)(nz:∀x∈X,nZ x.vm=true)(hx:X.length≤1024):
 ao go 30 [.ptr b 0] h fun u h'=>Fr [] h h'∧∃v Z,u=.agg [v]∧Recs Ent.cells 6 h' v Z∧Z.map (fun z=>z.x.val)=X.map Itm.val∧Z.map Ent.b=l∧Z.map Ent.kn=kn∧∀z∈Z,ItmH h' z.x:=by
 refine OQ.mono (pY w s nz hx) ?_;rintro _ h' ⟨f,v,Z,e,a,r⟩;exact⟨f,v,Z,e,a.rs,r⟩
def SE(N:Nat)(Ks:List Knd)(h:Heap)(b:Nat)(E:List Ent):Prop:=
 ∃n0 K X st vK bg B bm S bl pm mc,Sto n0 h b K 12 X (E.map Ent.b) (E.map Ent.kn) st vK bg B bm S bl pm mc∧dm Ks K∧X.map Itm.val=E.map (fun e=>e.x.val)∧(∀x∈X,nZ x.vm=true)∧IxOf mc.1 E∧mc.2≤1024∧(∀y∈Wr b bg B bm S bl pm,N≤y)∧N≤n0
theorem SE.fr{N:Nat}{Ks:List Knd}{h h':Heap}{b:Nat}{E:List Ent}(w:WF h)(s:SE N Ks h b E)(f:Fr [] h h'):SE N Ks h' b E:=by
 obtain⟨n0,K,X,st,vK,bg,B,bm,S,bl,pm,mc,s,r⟩:=s;exact⟨n0,K,X,st,vK,bg,B,bm,S,bl,pm,mc,s.fr w f,r⟩
theorem CT{N:Nat}{Ks:List Knd}{h:Heap}{b:Nat}{E:List Ent}{vE:V}(w:WF h)(s:SE N Ks h b E)(re:Recs Ent.cells 6 h vE E)(ie:∀e∈E,ItmH h e.x)(hE:E.length≤1024):
 ao go 19 [.ptr b 0,.agg [vE]] h fun u h'=>u=.int .i64 1∧Fr [] h h':=by
 obtain⟨n0,K,X,st,vK,bg,B,bm,S,bl,pm,mc,s,sk,ev,nz,ix,_⟩:=s;have lx:X.length=E.length:=by have:=congrArg List.length ev;simpa using this
 have fit:=s.lo.kl.2;have v1:vE.one=true:=Sl.one re;obtain⟨h1,e_h1⟩:∃h1,h1=halloc h [vE]:=⟨_,rfl⟩;have F_h1:Fr [] h h1:=e_h1▸Fr.halloc w _;have o_h1:Own h1 h.next [vE]:=e_h1▸Own.new w _;have s1:=s.fr w F_h1;have x0:∀{h'},Fr [] h1 h'→ag h' h.next 0=some vE:=fun f=>(f.get o_h1).ld1 0;have x1:∀{h'},Fr [] h1 h'→ak h' h.next 0 1=some [vE]:=fun f=>by rw[(f.get o_h1).ld];rfl
 have y0:=x0 (Fr.refl F_h1.wf);have y1:=x1 (Fr.refl F_h1.wf);refine ah rfl rfl ?_;simp only[fn19,evs,seval,eff,←e_h1];refine aa (ko s1) ?_;rintro _ _ ⟨rfl,rfl⟩;simp only[evs,seval,eff,re.len,y0,lx];refine aa (Ap F_h1.wf s1 nz (by omega)) ?_;rintro _ h2 ⟨F2,vz,Z,rfl,rz,zv,zb,zk,iz⟩;have y0b:=x0 F2;have y1b:=x1 F2;have eq:Z.map Ent.val=E.map Ent.val:=by
  have l1:Z.length=E.length:=by have:=congrArg List.length zb;simpa using this
  refine List.ext_getElem? fun i=>?_;rw[List.getElem?_map,List.getElem?_map];rw[ev]at zv;have a1:=congrArg (fun l=>l[i]?) zv;have a2:=congrArg (fun l=>l[i]?) zb;have a3:=congrArg (fun l=>l[i]?) zk;simp only[List.getElem?_map]at a1 a2 a3;cases q:Z[i]? with
  |none=>rw[List.getElem?_eq_none (by have:=List.getElem?_eq_none_iff.1 q;omega)]
  |some z=>
   have il:=(List.getElem?_eq_some_iff.1 q).1;have q2:E[i]? =some E[i]:=List.getElem?_eq_getElem (by omega);rw[q,q2]at a1 a2 a3;rw[q2];simp only[Option.map_some,Option.some.injEq]at a1 a2 a3⊢;simp only[Ent.val,a1,a2,a3]
 simp only[evs,seval,eff,y1b];refine aa (Al F2.wf rz (re.fr (F_h1.then F2)) iz (fun e m=>(ie e m).fr (F_h1.then F2)) eq (by omega)) ?_;rintro _ h3 ⟨rfl,F3⟩;have F13:=F2.then F3;simp only[evs,seval,DF,eff,y0,y1,y1b];refine aC (fun n env hh=>Fr [] h1 hh∧∃i:Nat,env.get 6=some (.int .i64 i)∧env.get 5=some (.int .i64 ((E.map Ent.b).take i).sum)∧env.get 0=some (.ptr b 0)∧env.get 3=some (.ptr h.next 0)∧i≤E.length∧n=E.length-i) E.length (by omega) ?_ ?_
 ·exact⟨F13,0,(by simp),(by simp),(by simp),(by simp),by omega,rfl⟩
 ·rintro n env hh ⟨F,i,g6,g5,g0,g3,hi,rfl⟩;have z0:=x0 F;have s5:=s1.fr F_h1.wf F;have F0:=F_h1.then F;by_cases c:i<E.length
  ·obtain⟨bi,oi,e,p1,p2,_,p4⟩:=(re.fr F0).ix aZ .i64 (i:Int) (by omega) (by omega);rw[Int.toNat_natCast]at p4;have q0:ag hh bi oi=some (.int .u64 (e.x.key:Int)):=p2 0 (by omega);have kb:=(ie e (List.mem_of_getElem? p4)).k;simp only[evs,seval,g6,g0,g3,z0,re.len,show(i:Int)<E.length by omega,p1,q0];refine aa (tQ F.wf s5 kb) ?_;rintro _ h4 ⟨rfl,F4⟩;rw[(ix _ i).2 ⟨e,p4,rfl⟩];have z04:=x0 (F.then F4);obtain⟨bj,oj,e',p1',p2',_,p4'⟩:=(re.fr (F0.then F4)).ix aZ .i64 (i:Int) (by omega) (by omega);rw[Int.toNat_natCast,p4]at p4';cases p4';have q4:ag h4 bj (oj+4)=some (.int .i64 e.b):=p2' 4 (by omega);have ts:((E.map Ent.b).take (i+1)).sum=((E.map Ent.b).take i).sum+e.b:=by
    rw[List.take_add_one,List.getElem?_map,p4];simp
   have f1:Fit ((E.map Ent.b).take i):=fit.sub (List.take_sublist _ _);have f2:Fit ((E.map Ent.b).take (i+1)):=fit.sub (List.take_sublist _ _);have n1:=f1.nn;have n2:=f2.nn;have m2:=f2.2.1;simp(disch:=omega) only[evs,seval,ai,g6,g5,g3,eR,z04,p1',q4];refine(aj _ _ _).2 ⟨E.length-(i+1),by omega,F.then F4,i+1,(by simp),(by simp[ts]),(by simp[g0]),(by simp[g3]),by omega,rfl⟩
  ·have e:i=E.length:=by omega
   subst e;rw[List.take_of_length_le (by simp)]at g5;simp only[evs,seval,g6,g0,g3,z0,re.len,show¬(E.length:Int)<E.length by omega];refine aa (nJ F.wf s5) ?_;rintro _ h4 ⟨c',pm',rfl,_,_,lo,F4⟩;have z04:=x0 (F.then F4);have z14:=x1 (F.then F4);have lm:((E.map Ent.b).length:Int)=E.length:=by simp
   simp only[evs,seval,eff];refine aa (D8 F4.wf lo.lo) ?_;rintro _ h5 ⟨rfl,F5⟩;have z05:=x0 ((F.then F4).then F5);simp only[evs,seval,eff,g3,re.len,z05,lm];refine aa (zW F5.wf (lo.fr F5).lo) ?_;rintro _ h6 ⟨rfl,F6⟩;simp only[evs,seval,DF,eff,g5,z04,z05];exact F0.then ((F4.then F5).then F6)
theorem i9(x:Itm):∀{a b:PT},PT.same a b→bK x a=bK x b
 |.nil,.nil,_=>rfl
 |.cons _ _ _ _ _ _ _ s n,.cons _ _ _ _ _ _ _ s' n',⟨h1,h2,h3,h4,h5,h6,h7⟩=>by
  subst h1 h2 h3 h4 h5;simp only[bK,i9 x h6,i9 x h7]
 |.nil,.cons _ _ _ _ _ _ _ _ _,h=>h.elim
 |.cons _ _ _ _ _ _ _ _ _,.nil,h=>h.elim
theorem pX{Ks K:List Knd}(h:dm Ks K)(cap:Int)(x:Itm):bQ K cap x=bQ Ks cap x:=by
 unfold bQ;cases e:Ks[x.type]? with
 |none=>
  have:K[x.type]? =none:=by rw[List.getElem?_eq_none_iff]at e⊢;rw[←dH h];exact e
  rw[this]
 |some q=>
  obtain⟨p,e2,s⟩:=gJ h e;rw[e2];obtain⟨h1,h2,h3,h4,h5,_,_,_,h9⟩:=s;simp only[dO,h1,h2,h3,h4,h5,PT.same_count _ _ _ _ _ h9,i9 x h9]
theorem uv{K:List Knd}{cap:Int}{p:Nat→Bool}:∀{seen:List Nat}{Y:List Itm},(∀y∈Y,okI y K.length=true∧bQ K cap y=0∧p y.key=false∧y.key∉seen)→(Y.map Itm.key).Nodup→kH K cap p seen Y=0
 |_,[],_,_=>rfl
 |seen,y::Y,h,n=>by
  obtain⟨h1,h2,h3,h4⟩:=h y (by simp);rw[List.map_cons,List.nodup_cons]at n;simp only[kH];rw[h1,if_neg (by decide),if_neg (by simp[h3,h4]),if_neg (by simp[h2])];refine uv (fun z m=>?_) n.2;obtain⟨g1,g2,g3,g4⟩:=h z (by simp[m]);refine⟨g1,g2,g3,fun c=>?_⟩;rcases List.mem_append.1 c with c|c
  ·exact g4 c
  ·rw[List.mem_singleton]at c;exact n.1 (List.mem_map.2 ⟨z,m,c⟩)
theorem pR:∀{L:List Int}{t:Int},(∀x∈L,1≤x∧x≤40)→t+40*L.length≤4611686018427387904→rM t L=0
 |[],_,_,_=>rfl
 |x::L,t,h,c=>by
  have:=h x (by simp);rw[List.length_cons]at c;simp only[rM];rw[if_neg (by omega),if_neg (by omega)];exact pR (fun y m=>h y (by simp[m])) (by omega)
theorem rL:∀{L:List Int},(∀x∈L,1≤x∧x≤40)→0≤L.sum∧L.sum≤40*L.length
 |[],_=>by simp
 |x::L,h=>by
  have:=h x (by simp);have:=rL (L:=L) fun y m=>h y (by simp[m]);simp only[List.sum_cons,List.length_cons];omega
theorem yx{L:List Int}(h:∀x∈L,1≤x∧x≤40)(hl:L.length≤1000):ce [] 0 L=0:=by
 have:=rL h;unfold ce;rw[if_pos (by simp),if_neg (by simp;omega),if_pos (pR h (by omega)),if_neg (by simp;omega)]
theorem tY:∀(X:List Itm)(mc:ew)(i:Nat),(X.map Itm.key).Nodup→∀k j,(fc mc X i).1 k=some j↔(∃n x,X[n]? =some x∧x.key=k∧j=i+n)∨((∀x∈X,x.key≠k)∧mc.1 k=some j)
 |[],mc,i,_,k,j=>by simp[fc]
 |x::r,mc,i,nd,k,j=>by
  rw[List.map_cons,List.nodup_cons]at nd;have ih:=tY r (rV mc x.key i) (i+1) nd.2 k j;simp only[fc];rw[ih];have ms:(rV mc x.key i).1 k=if k=x.key then some i else mc.1 k:=by simp only[rV,jH]
  rw[ms];constructor
  ·rintro(⟨n,y,h1,h2,h3⟩|⟨h1,h2⟩)
   ·exact .inl ⟨n+1,y,by simpa using h1,h2,by omega⟩
   ·by_cases c:k=x.key
    ·rw[if_pos c]at h2;exact .inl ⟨0,x,rfl,c.symm,by cases h2;rfl⟩
    ·rw[if_neg c]at h2;refine .inr ⟨fun y m=>?_,h2⟩;rcases List.mem_cons.1 m with rfl|m
     ·exact fun e=>c e.symm
     ·exact h1 y m
  ·rintro(⟨n,y,h1,h2,h3⟩|⟨h1,h2⟩)
   ·cases n with
    |zero=>
     simp at h1;subst h1;refine .inr ⟨fun y m e=>nd.1 (List.mem_map.2 ⟨y,m,by rw[e,h2]⟩),?_⟩;rw[if_pos h2.symm];simp[h3]
    |succ n=>exact .inl ⟨n,y,by simpa using h1,h2,by omega⟩
   ·refine .inr ⟨fun y m=>h1 y (by simp[m]),?_⟩;rw[if_neg (fun e=>h1 x (by simp) e.symm)];exact h2
theorem tZ:∀(X:List Itm)(mc:ew)(i:Nat),(fc mc X i).2≤mc.2+X.length
 |[],_,_=>Nat.le_refl _
 |x::r,mc,i=>by
  have:=tZ r (rV mc x.key i) (i+1);have h2:(rV mc x.key i).2≤mc.2+1:=by simp only[rV];split<;>omega
  simp only[fc,List.length_cons];omega
def Ent.ht(e:Ent):Nat×Int:=(e.x.key,e.b)
theorem qn{m:Nat→Option Nat}{E:List Ent}{bs:Ent→Int}(ix:IxOf m E)(hb:∀e∈E,1≤bs e∧bs e≤40)(h0:∀e∈E,e.kn=false→e.b=bs e)(h1:∀e∈E,e.kn=true→1≤e.b∧e.b≤40)(hl:E.length≤1000):
 ∀(n i c:Nat),i+n=E.length→∃c',gM m (((E.drop i).filter Ent.kn).map Ent.ht) c ((E.take i).map Ent.b++(E.drop i).map bs) ((E.take i).map Ent.kn++List.replicate n false)=(0,c',E.map Ent.b,E.map Ent.kn)
 |0,i,c,e=>by
  rw[List.drop_of_length_le (by omega),List.take_of_length_le (by omega)];exact⟨c,by simp[gM]⟩
 |n+1,i,c,hi=>by
  have il:i<E.length:=by omega
  have p:E[i]? =some E[i]:=List.getElem?_eq_getElem il;generalize E[i]=e at p;have em:=List.mem_of_getElem? p;have lb:((E.take i).map Ent.b++(E.drop i).map bs).length=E.length:=by simp;omega
  have ih:=fun c=>qn ix hb h0 h1 hl n (i+1) c (by omega);have tk:((E.take i).map Ent.b).length=i:=by simp;omega
  have tk2:((E.take i).map Ent.kn).length=i:=by simp;omega
  rw[aJ p];cases ek:e.kn with
  |false=>
   obtain⟨c',r⟩:=ih c;refine⟨c',?_⟩;rw[List.filter_cons_of_neg (by simp[ek])];rw[List.take_add_one,p]at r;simp only[Option.toList_some,List.map_append,List.map_cons,List.map_nil,List.append_assoc,List.singleton_append,ek,h0 e em ek]at r;rw[List.map_cons,List.replicate_succ];exact r
  |true=>
   obtain⟨c',r⟩:=ih (c+1);refine⟨c',?_⟩;rw[List.filter_cons_of_pos (by simp[ek]),List.map_cons,List.map_cons,List.replicate_succ];have mk:m e.x.key=some i:=(ix _ i).2 ⟨e,p,rfl⟩;have all:∀x∈(E.take i).map Ent.b++bs e::(E.drop (i+1)).map bs,1≤x∧x≤40:=by
    intro x mx;rcases List.mem_append.1 mx with mx|mx
    ·obtain⟨y,ym,rfl⟩:=List.mem_map.1 mx;have ym:=List.mem_of_mem_take ym;cases yk:y.kn
     ·rw[h0 y ym yk];exact hb y ym
     ·exact h1 y ym yk
    ·rcases List.mem_cons.1 mx with rfl|mx
     ·exact hb e em
     ·obtain⟨y,ym,rfl⟩:=List.mem_map.1 mx;exact hb y (List.mem_of_mem_drop ym)
   have sl:=rL all;have ll:((E.take i).map Ent.b++bs e::(E.drop (i+1)).map bs).length=E.length:=by simp;omega
   have g:((E.take i).map Ent.b++bs e::(E.drop (i+1)).map bs).getD i 0=bs e:=by
    rw[List.getD_eq_getElem?_getD,List.getElem?_append_right (by omega),tk];simp
   have hx:eZ ((E.take i).map Ent.b++bs e::(E.drop (i+1)).map bs) i e.b=0:=by
    have b1:=h1 e em ek;have b2:=hb e em;unfold eZ;rw[if_pos ⟨by omega,by rw[ll];omega⟩,if_neg (by omega),Int.toNat_natCast,g,if_neg (by rw[ll]at sl;omega)]
   have s1:((E.take i).map Ent.b++bs e::(E.drop (i+1)).map bs).set i e.b=(E.take i).map Ent.b++e.b::(E.drop (i+1)).map bs:=by
    rw[List.set_append_right _ _ (by omega),tk,Nat.sub_self];rfl
   have s2:((E.take i).map Ent.kn++false::List.replicate n false).set i true=(E.take i).map Ent.kn++true::List.replicate n false:=by
    rw[List.set_append_right _ _ (by omega),tk2,Nat.sub_self];rfl
   rw[List.take_add_one,p]at r;simp only[Option.toList_some,List.map_append,List.map_cons,List.map_nil,List.append_assoc,List.singleton_append,ek]at r;simp only[gM,Ent.ht,mk,hx,if_pos,s1,s2];exact r
theorem HP(q i:Nat)(hi:i<5):aP (.ixs 2) [.slice q 0 5 5,.int .i64 (i:Int)]=some (.ptr q (i*2)):=by
 have:i=0∨i=1∨i=2∨i=3∨i=4:=by omega
 rcases this with rfl|rfl|rfl|rfl|rfl<;>simp[aP]<;>exact⟨_,rfl,rfl⟩
def Bu(b:Nat):List V:=[.int .u8 1,.func (.func 46) [.ptr b 0] [],.int .u8 2,.func (.func 47) [.ptr b 0] [],.int .u8 3,.func (.func 48) [.ptr b 0] [],.int .u8 4,.func (.func 49) [.ptr b 0] [],.int .u8 5,.func (.func 50) [.ptr b 0] []]
theorem yE{n0:Nat}{h:Heap}{b bg B bm S bl k n:Nat}{Ks:List Knd}{cap a c t:Int}{X:List Itm}{l:List Int}{kn st:List Bool}{vK v:V}{pm:Option Nat}{mc:ew}{cs:List V}{R:V→Heap→Prop}(w:WF h)(s:Sto n0 h b Ks cap X l kn st vK bg B bm S bl pm mc)
 (hk:k<256) (sl:Sl h 4 v n cs) (hE:∀h',dB k a c t n≠0→Fr [] h h'→R (.int .i64 (dB k a c t n)) h') (hD:dB k a c t n=0→∀h',Fr [] h h'→ao go (45+k) [.ptr b 0,.agg [.int .u8 (k:Int),.int .i64 a,.int .i64 c,.int .i64 t,v]] h' R):
 ao go 9 [.ptr b 0,.agg [.int .u8 (k:Int),.int .i64 a,.int .i64 c,.int .i64 t,v]] h R:=by
 have v1:v.one=true:=Sl.one sl;obtain⟨h1,e_h1⟩:∃h1,h1=halloc h [.int .u8 (k:Int),.int .i64 a,.int .i64 c,.int .i64 t,v]:=⟨_,rfl⟩;have F_h1:Fr [] h h1:=e_h1▸Fr.halloc w _;have o_h1:Own h1 h.next [.int .u8 (k:Int),.int .i64 a,.int .i64 c,.int .i64 t,v]:=e_h1▸Own.new w _;have s1:=s.fr w F_h1;have l5:ak h1 h.next 0 5=some [.int .u8 (k:Int),.int .i64 a,.int .i64 c,.int .i64 t,v]:=by rw[o_h1.ld];rfl
 refine ah rfl rfl ?_;simp only[fn9,evs,seval,←e_h1];refine aa (iZ s1) ?_;rintro _ _ ⟨rfl,rfl⟩;simp only[evs,seval,l5];refine aa (yM F_h1.wf hk (Sl.fr sl F_h1)) ?_;rintro _ h2 ⟨rfl,F2⟩;have F02:=F_h1.then F2;by_cases c0:dB k a c t n=0
 ·have kk:1≤k∧k≤5:=by
   unfold dB at c0;split at c0
   ·cases c0
   ·omega
  simp only[evs,seval,c0];obtain⟨h3,e_h3⟩:∃h3,h3=halloc h2 (Bu b):=⟨_,rfl⟩;have F_h3:Fr [] h2 h3:=e_h3▸Fr.halloc F2.wf _;have o3:Own h3 h2.next (Bu b):=e_h3▸Own.new F2.wf _;change W _ _ _ (halloc h2 (Bu b)) _;rw[←e_h3];have n3:h3.next=h2.next+1:=by rw[e_h3];rfl
  have row:∀hh,Fr [] h3 hh→∀i,i<5→ak hh h2.next (i*2) 2=some [.int .u8 ((i+1:Nat):Int),.func (.func (46+i)) [.ptr b 0] []]:=by
   intro hh f i hi;have:i=0∨i=1∨i=2∨i=3∨i=4:=by omega
   rw[(f.get o3).ld];rcases this with rfl|rfl|rfl|rfl|rfl<;>rfl
  refine aC (fun n env hh=>Fr [] h3 hh∧∃(i:Nat),env.get 32=some (.int .i64 i)∧env.get 31=some (.int .i64 (5:Nat))∧env.get 30=some (.slice h2.next 0 5 5)∧env.get 0=some (.ptr b 0)∧env.get 3=some (.ptr h.next 0)∧i<k∧n=5-i) 5 (by omega) ?_ ?_
  ·exact⟨Fr.refl F_h3.wf,0,(by simp),(by simp),(by simp),(by simp),(by simp),by omega,rfl⟩
  ·rintro n env hh ⟨F,i,g32,g31,g30,g0,g3,hi,rfl⟩;have hi5:i<5:=by omega
   have hlt':(i:Int)<(5:Nat):=by omega
   have p1:=HP h2.next i hi5;have p3:=row hh F i hi5;obtain⟨h4,e_h4⟩:∃h4,h4=halloc hh [.int .u8 0,.nilf]:=⟨_,rfl⟩;have F_h4:Fr [] hh h4:=e_h4▸Fr.halloc F.wf _;have o_h4:Own h4 hh.next [.int .u8 0,.nilf]:=e_h4▸Own.new F.wf _;simp only[evs,↓reduceIte,Nat.reduceEqDiff,g32,g31,g30,hlt',p1,p3,←e_h4];refine ab (c':=[.int .u8 ((i+1:Nat):Int),.func (.func (46+i)) [.ptr b 0] []]) F_h4.wf o_h4 rfl rfl rfl ?_;rintro h5 o5 F5 n5;have F05:Fr [] hh h5:=F_h4.fresh F5 F.wf (Nat.le_refl _);have x0:ag h5 hh.next 0=some (.int .u8 ((i+1:Nat):Int)):=o5.ld1 0;have x1:ag h5 hh.next 1=some (.func (.func (46+i)) [.ptr b 0] []):=o5.ld1 1;have Fa:=((F02.then F_h3).then F).then F05;have on:=((((F2.then F_h3).then F).then F05).get o_h1);have y0:ag h5 h.next 0=some (.int .u8 (k:Int)):=on.ld1 0;have y5:ak h5 h.next 0 5=some [.int .u8 (k:Int),.int .i64 a,.int .i64 c,.int .i64 t,v]:=by rw[on.ld];rfl
   by_cases ek:k=i+1
   ·have ek':(((i+1:Nat):Int)=(k:Int)):=by omega
    have big:46+i<1099511627776:=by omega
    simp only[evs,seval,g3,x0,x1,y0,y5,eq_true ek',big];refine OQ.mono (show ao go (46+i) _ h5 R from ?_) ?_
    ·have:=hD c0 h5 Fa;rw[show 45+k=46+i by omega]at this;exact this
    ·intro u h' r;simp only[evs,seval];exact r
   ·have ek':¬(((i+1:Nat):Int)=(k:Int)):=by omega
    simp(disch:=omega) only[evs,seval,ai,g32,g3,x0,y0,eq_false ek'];refine(aj _ _ _).2 ⟨5-(i+1),by omega,F.then F05,i+1,(by simp),(by simp[g31]),(by simp[g30]),(by simp[g0]),(by simp[g3]),by omega,rfl⟩
 ·simp only[evs,seval,eq_false c0];exact hE _ c0 F02
structure LOk(Ks:List Knd)(h:Heap)(E:List Ent):Prop where
 h:∀e∈E,ItmH h e.x∧nZ e.x.vm=true∧okI e.x 3=true∧bQ Ks 12 e.x=0
 b:∀e∈E,e.kn=false→e.b=aN Ks e.x
 c:∀e∈E,e.kn=true→1≤e.b∧e.b≤40
 n:(E.map fun e=>e.x.key).Nodup
 l:E.length≤12
 r:okR Ks 12=true∧Ks.length=3∧GK Ks
theorem Sto.wrlt{n0:Nat}{h:Heap}{b bg B bm S bl:Nat}{Ks:List Knd}{cap:Int}{X:List Itm}{l:List Int}{kn st:List Bool}{vK:V}{pm:Option Nat}{mc:ew}(w:WF h)(s:Sto n0 h b Ks cap X l kn st vK bg B bm S bl pm mc):∀y∈Wr b bg B bm S bl pm,y<h.next:=by
 intro y m;simp only[Wr,List.mem_append,List.mem_cons,List.not_mem_nil,or_false]at m;rcases m with(rfl|rfl|rfl|rfl|rfl|rfl)|m
 ·exact s.ob.lt w
 ·exact s.g.ob.1.lt w
 ·exact s.gB.lt w
 ·exact s.k.lt w
 ·exact s.Sl'
 ·exact s.bl'
 ·exact s.pl y (by simpa using m)
theorem lJ{h:Heap}{b o n m:Nat}{r:List V}(e:ak h b o n=some r)(l:m≤n):ak h b o m=some (r.take m):=by
 unfold ak at e⊢;split at e
 ·obtain⟨rfl,q⟩:=im e;rw[aU _ _ (by omega),List.take_take,Nat.min_eq_left l]
 ·cases e
theorem LOk.fr{Ks:List Knd}{h h':Heap}{E:List Ent}(a:LOk Ks h E)(f:Fr [] h h'):LOk Ks h' E:=⟨fun e m=>⟨(a.h e m).1.fr f,(a.h e m).2⟩,a.b,a.c,a.n,a.l,a.r⟩
theorem LOk.base{Ks:List Knd}{h:Heap}{E:List Ent}(a:LOk Ks h E):∀e∈E,1≤aN Ks e.x∧aN Ks e.x≤40:=by
 intro e m;have t:=(a.h e m).2.2.1;simp only[okI,Bool.and_eq_true,decide_eq_true_eq]at t;have p:Ks[e.x.type]? =some (Ks[e.x.type]'(by rw[a.r.2.1];exact t.2.1)):=List.getElem?_eq_getElem _;generalize Ks[e.x.type]'(by rw[a.r.2.1];exact t.2.1)=q at p;have g:=(a.r.2.2 q (List.mem_of_getElem? p)).2.2;rw[aN,p];exact g
theorem LOk.okZ{Ks:List Knd}{h:Heap}{E:List Ent}(a:LOk Ks h E):okZ E:=by
 intro e m;cases ek:e.kn
 ·have:=a.base e m;rw[a.b e m ek];omega
 ·have:=a.c e m ek;omega
theorem LOk.key{Ks:List Knd}{h:Heap}{E:List Ent}(a:LOk Ks h E):∀e∈E,0<e.x.key:=by
 intro e m;have t:=(a.h e m).2.2.1;simp only[okI,Bool.and_eq_true,decide_eq_true_eq]at t;omega
theorem _root_.Go.Ev.Gs.dj{h h':Heap}{B e:Nat}{v:V}{cs:List V}{Z:List Nat}(g:Gs h B e v cs)(f:Fr Z h h')(d:∀z∈Z,z∉vb v):Gs h' B e v cs:=by
 rcases g with z|⟨b,n,z1,z2,z3,z4,o⟩
 ·exact .inl z
 ·exact .inr ⟨b,n,z1,z2,z3,z4,f.own _ _ (fun m=>d _ m (by rw[z1];simp[vb])) o⟩
theorem Cps.vals:∀{a b:List Itm},Cps a b→b.map Itm.val=a.map Itm.val
 |[],[],_=>rfl
 |_::_,_::_,h=>by
  obtain⟨⟨v,rfl,_⟩,h2⟩:=h;simp only[List.map_cons,Cps.vals h2];rfl
 |[],_::_,h=>h.elim
 |_::_,[],h=>h.elim
theorem yV{X:List Itm}{E:List Ent}(ev:X.map Itm.val=E.map (fun e=>e.x.val))(n:(E.map fun e=>e.x.key).Nodup):IxOf (fc (fun _=>none,0) X 0).1 E:=by
 have ek:X.map Itm.key=E.map (fun e=>e.x.key):=by
  have:=congrArg (List.map Prod.fst) ev;rw[List.map_map,List.map_map]at this;exact this
 intro k j;rw[tY X _ 0 (by rw[ek];exact n)];constructor
 ·rintro(⟨n,x,h1,h2,h3⟩|⟨_,h2⟩)
  ·have:=congrArg (fun l=>l[n]?) ek;simp only[List.getElem?_map,h1]at this;cases q:E[n]? with
   |none=>rw[q]at this;cases this
   |some e=>rw[q]at this;exact⟨e,by rw[show j=n by omega];exact q,by rw[←h2];exact(Option.some.inj this).symm⟩
  ·cases h2
 ·rintro⟨e,h1,h2⟩;have:=congrArg (fun l=>l[j]?) ek;simp only[List.getElem?_map,h1]at this;cases q:X[j]? with
  |none=>rw[q]at this;cases this
  |some x=>rw[q]at this;exact .inl ⟨j,x,q,by rw[←h2];exact Option.some.inj this,by omega⟩
theorem Du{n0 N:Nat}{h:Heap}{b bg B bm S bl:Nat}{Ks K:List Knd}{vK v:V}{pm:Option Nat}{E:List Ent}(w:WF h)(s:Sto n0 h b K 12 [] [] [] [] vK bg B bm S bl pm (fun _=>none,0))(sk:dm Ks K)(wr:∀y∈Wr b bg B bm S bl pm,y<N)(o:LOk Ks h E)
 (hi:∀(Z:List Nat)(h':Heap),(∀z∈Z,z∈Wr b bg B bm S bl pm∨h.next≤z)→Fr Z h h'→∀e∈E,ItmH h' e.x) (g:Gs h N 4 v ((E.map Ent.x).flatMap Itm.cells)):ao go 9 [.ptr b 0,.agg [.int .u8 1,.int .i64 0,.int .i64 0,.int .i64 0,v]] h fun u h'=>u=.int .i64 0∧Fr (Wr b bg B bm S bl pm) h h'∧
  ∃X st B' S' pm' mc,Sto n0 h' b K 12 X (E.map fun e=>aN Ks e.x) (List.replicate E.length false) st vK bg B' bm S' bl pm' mc∧X.map Itm.val=E.map (fun e=>e.x.val)∧(∀x∈X,nZ x.vm=true)∧IxOf mc.1 E∧mc.2≤1024∧
   ∀y∈Wr b bg B' bm S' bl pm',y∈Wr b bg B bm S bl pm∨h.next≤y:=by
 have sl:Sl h 4 v (E.map Ent.x).length ((E.map Ent.x).flatMap Itm.cells):=Gs.sl g (aG dD _) (by omega);have v1:=sl.one;have el:(E.map Ent.x).length=E.length:=by simp
 have hl:=o.l;have okr:okR K 12=true:=by rw[←vS sk];exact o.r.1
 have e0:dB 1 0 0 0 (E.map Ent.x).length=0:=by simp[dB]
 refine yE (k:=1) (n:=(E.map Ent.x).length) w s (by omega) sl (fun h' c f=>absurd e0 c) (fun _ h1 f1=>?_);have s1:=s.fr w f1;have eb:(E.map Ent.x).map (aN K)=E.map fun e=>aN Ks e.x:=by
  rw[List.map_map];exact List.map_congr_left fun e m=>(yD sk e.x).1
 have nd:((E.map Ent.x).map Itm.key).Nodup:=by rw[List.map_map];exact o.n
 have er:jA K 12 0 [] (E.map Ent.x) [] (fun _=>false)=0:=by
  unfold jA;have inc:kH K 12 (fun _=>false) [] (E.map Ent.x)=0:=by
   refine uv (fun y m=>?_) nd;obtain⟨e,em,rfl⟩:=List.mem_map.1 m;obtain⟨_,_,q1,q2⟩:=o.h e em;exact⟨by rw[←dH sk,o.r.2.1];exact q1,by rw[pX sk];exact q2,rfl,by simp⟩
  rw[if_neg (by simp),if_neg (by simp;omega),inc,if_neg (by decide),eb];exact yx (fun x m=>by obtain⟨e,em,rfl⟩:=List.mem_map.1 m;exact o.base e em) (by simp;omega)
 refine OQ.mono (yW (a:=0) f1.wf s1 (by omega) okr (by simp) (by simp) (by simp) (Y:=E.map Ent.x) (fun Z h' hZ f=>?_) (fun y m=>?_) (by omega) (by simp only[aA,aF,v1];rfl)) ?_
 ·have n1:=f1.next;have gl:=g.lt w;have f':Fr Z h h':=Fr.trans f1 f w (by simp) (fun x m=>.inl m);refine⟨Sl.a (Gs.sl (g.dj f' fun z m c=>?_) (aG dD _) (by omega)),fun y m=>?_⟩
  ·have:=g.vb z c;have:=gl z c;rcases hZ z m with q|q
   ·have:=wr z q;omega
   ·omega
  ·obtain⟨e,em,rfl⟩:=List.mem_map.1 m;exact hi Z h' (fun z m=>(hZ z m).imp id fun q=>by omega) f' e em
 ·obtain⟨e,em,rfl⟩:=List.mem_map.1 m;exact(o.h e em).2.1
 rintro _ h' ⟨rfl,_,r2⟩;have er':jA K 12 0 [] (E.map Ent.x) [] (fun x=>(((fun _=>none,0):ew).1 x).isSome)=0:=er;rw[er']at r2⊢;obtain⟨_,_,_,Y',B',S',pm',cp,s2,f2,q1,q2,q3⟩:=r2 rfl;rw[eb]at s2;simp only[Int.toNat_zero,List.take_nil,List.drop_nil,List.nil_append,List.append_nil,List.drop_zero,el]at s2;have ev:Y'.map Itm.val=E.map (fun e=>e.x.val):=by rw[cp.vals,List.map_map];rfl
 refine⟨rfl,Fr.trans f1 f2 w (by simp) (fun x m=>.inl m),Y',_,B',S',pm',_,s2,ev,cp.nz,yV ev o.n,?_,?_⟩
 ·have:=tZ Y' (fun _=>none,0) 0;have:=cp.len;simp only[]at *;omega
 ·have n1:=f1.next;intro y m;simp only[Wr,List.mem_append,List.mem_cons,List.not_mem_nil,or_false]at m⊢;rcases m with(m|m|m|m|m|m)|m
  ·exact .inl (.inl (.inl m))
  ·exact .inl (.inl (.inr (.inl m)))
  ·rcases q1 with q|q
   ·exact .inl (.inl (.inr (.inr (.inl (m.trans q)))))
   ·exact .inr (by omega)
  ·exact .inl (.inl (.inr (.inr (.inr (.inl m)))))
  ·rcases q2 with q|q
   ·exact .inl (.inl (.inr (.inr (.inr (.inr (.inl (m.trans q)))))))
   ·exact .inr (by omega)
  ·exact .inl (.inl (.inr (.inr (.inr (.inr (.inr m))))))
  ·rcases q3 with q|q
   ·rw[q]at m;exact .inl (.inr m)
   ·exact .inr (by have:=q y (by simpa using m);omega)
theorem Dc{n0:Nat}{h:Heap}{b bg B bm S bl:Nat}{Ks K:List Knd}{vK v:V}{pm:Option Nat}{E:List Ent}{X:List Itm}{st:List Bool}{mc:ew}(w:WF h)(s:Sto n0 h b K 12 X (E.map fun e=>aN Ks e.x) (List.replicate E.length false) st vK bg B bm S bl pm mc)
 (ix:IxOf mc.1 E) (o:LOk Ks h E) (sv:∀(Z:List Nat)(h':Heap),(∀z∈Z,z∈Wr b bg B bm S bl pm∨h.next≤z)→Fr Z h h'→ARecs htC 2 h' v ((E.filter Ent.kn).map Ent.ht)):
 ao go 12 [.ptr b 0,v] h fun u h'=>∃c:Int,u=.tup [.int .i64 c,.int .i64 0]∧Fr (bl::pm.toList) h h'∧Sto n0 h' b K 12 X (E.map Ent.b) (E.map Ent.kn) st vK bg B bm S bl pm mc:=by
 have hl:=o.l;obtain⟨c',em⟩:=qn ix o.base o.b o.c (by omega) E.length 0 0 (by omega);simp only[List.drop_zero,List.take_zero,List.map_nil,List.nil_append]at em;refine OQ.mono (tN w s sv (fun x m=>?_) (by have:=List.length_filter_le Ent.kn E;simp;omega) (fun k j q=>?_)) ?_
 ·obtain⟨e,me,rfl⟩:=List.mem_map.1 m;have me2:=List.mem_filter.1 me;have:=o.c e me2.1 me2.2;exact⟨(o.h e me2.1).1.k,by show _≤e.b;omega,by show e.b≤_;omega⟩
 ·obtain⟨e,h1,_⟩:=(ix k j).1 q;have:=(List.getElem?_eq_some_iff.1 h1).1;omega
 rintro _ h' ⟨rfl,r1,_⟩;rw[em]at r1⊢;obtain⟨f,s2⟩:=r1 rfl;exact⟨_,rfl,f,s2⟩
theorem Ak{h:Heap}{vK vE:V}{Ks:List Knd}{E:List Ent}(w:WF h)(rk:Recs Knd.cells 9 h vK Ks)(kh:∀q∈Ks,KndH h q)(re:Recs Ent.cells 6 h vE E)(o:LOk Ks h E):
 ao go 17 [.agg [vK,.int .i64 12],.agg [vE]] h fun u h'=>∃b,u=.ptr b 0∧Fr [] h h'∧SE h.next Ks h' b E:=by
 have v1:vK.one=true:=Sl.one rk;have v2:vE.one=true:=Sl.one re;have hl:=o.l;obtain⟨h1,e_h1⟩:∃h1,h1=halloc h [vK,.int .i64 12]:=⟨_,rfl⟩;have F_h1:Fr [] h h1:=e_h1▸Fr.halloc w _;have o_h1:Own h1 h.next [vK,.int .i64 12]:=e_h1▸Own.new w _;obtain⟨h2,e_h2⟩:∃h2,h2=halloc h1 [vE]:=⟨_,rfl⟩;have F_h2:Fr [] h1 h2:=e_h2▸Fr.halloc F_h1.wf _;have o_h2:Own h2 h1.next [vE]:=e_h2▸Own.new F_h1.wf _;have n1:h1.next=h.next+1:=by rw[e_h1];rfl
 have n2:h2.next=h1.next+1:=by rw[e_h2];rfl
 have F02:=F_h1.then F_h2;have c0:ak h2 h.next 0 2=some [vK,.int .i64 12]:=by rw[(F_h2.get o_h1).ld];rfl
 refine ah rfl rfl ?_;simp only[fn17,evs,seval,←e_h1,←e_h2,c0];refine aa (CU F02.wf (Recs.fr rk F02) (fun q m=>(kh q m).fr F02) (by rw[o.r.2.1];omega) o.r.1) ?_;rintro _ h3 ⟨b,bg,bm,bl,vK',K,rfl,F3,sk,s3,ge⟩;have F03:=F02.then F3;simp only[evs,seval];obtain⟨h4,e_h4⟩:∃h4,h4=halloc h3 [.int .u8 0,.int .i64 0,.int .i64 0,.int .i64 0,.nils]:=⟨_,rfl⟩;have F_h4:Fr [] h3 h4:=e_h4▸Fr.halloc F3.wf _;have o_h4:Own h4 h3.next [.int .u8 0,.int .i64 0,.int .i64 0,.int .i64 0,.nils]:=e_h4▸Own.new F3.wf _;have n4:h4.next=h3.next+1:=by rw[e_h4];rfl
 simp only[←e_h4];refine ab (c':=[.int .u8 1,.int .i64 0,.int .i64 0,.int .i64 0,.nils]) F_h4.wf o_h4 rfl rfl rfl ?_;rintro h5 o5 F5 n5;have F35:Fr [] h3 h5:=F_h4.fresh F5 F3.wf (Nat.le_refl _);have wl:∀y∈Wr b bg h2.next bm bm bl none,h2.next≤y∧y<h3.next:=fun y m=>⟨ge y m,s3.wrlt F3.wf y m⟩;simp only[evs];refine aC (fun n env hh=>Fr [] h3 hh∧∃(i:Nat)(vI vT:V),env.get 9=some (.int .i64 i)∧env.get 8=some vT∧env.get 7=some (.ptr h3.next 0)∧env.get 5=some (.ptr b 0)∧env.get 3=some (.ptr h1.next 0)∧i≤E.length∧Own hh h3.next [.int .u8 1,.int .i64 0,.int .i64 0,.int .i64 0,vI]∧
  Gs hh h4.next 4 vI (((E.take i).map Ent.x).flatMap Itm.cells)∧Gs hh h4.next 2 vT ((((E.take i).filter Ent.kn).map Ent.ht).flatMap htC)∧(∀z∈vb vI,z∉vb vT)∧n=E.length-i) E.length (by omega) ?_ ?_
 ·exact⟨F35,0,.nils,.nils,(by simp),(by simp),(by simp),(by simp),(by simp),by omega,o5,.inl ⟨rfl,rfl⟩,.inl ⟨rfl,rfl⟩,by simp[vb],rfl⟩
 ·rintro n env hh ⟨F,i,vI,vT,g9,g8,g7,g5,g3,hi,on,GI,GT,dj,rfl⟩;have nF:=F.next;have onl:=on.lt F.wf;have F0h:=F03.then F;have gl3:ag hh h1.next 0=some vE:=((F3.then F).get o_h2).ld1 0;by_cases c:i<E.length
  ·have p4:E[i]? =some E[i]:=List.getElem?_eq_getElem c;generalize E[i]=e at p4;have em:=List.mem_of_getElem? p4;have ae:=((o.h e em).1).fr F0h;have rd:∀{H},Fr [] h H→∃bi oi,aP (.ixs 6) [vE,.int .i64 (i:Int)]=some (.ptr bi oi)∧ak H bi oi 4=some e.x.cells∧ag H bi oi=some (.int .u64 (e.x.key:Int))∧ag H bi (oi+4)=some (.int .i64 e.b)∧ag H bi (oi+5)=some (.bool e.kn):=by
    intro H f;obtain⟨bi,oi,e',p1,p2,p3,p4'⟩:=(re.fr f).ix aZ .i64 (i:Int) (by omega) (by omega);rw[Int.toNat_natCast,p4]at p4';cases p4';exact⟨bi,oi,p1,lJ p3 (by omega),p2 0 (by omega),p2 4 (by omega),p2 5 (by omega)⟩
   obtain⟨bi,oi,p1,p3,_⟩:=rd F0h;obtain⟨hx,e_hx⟩:∃hx,hx=halloc hh e.x.cells:=⟨_,rfl⟩;have F_hx:Fr [] hh hx:=e_hx▸Fr.halloc F.wf _;have o_hx:Own hx hh.next e.x.cells:=e_hx▸Own.new F.wf _;have nx:hx.next=hh.next+1:=by rw[e_hx];rfl
   have i0:ag hh h3.next 4=some vI:=on.ld1 4;have i1:ag hx h3.next 4=some vI:=(F_hx.get on).ld1 4;have u1:aY [.int .u64 0,.int .u8 0,.str [],.nils] 0 e.x.cells=some e.x.cells:=rfl;simp only[evs,seval,eff,g9,g7,g3,gl3,re.len,show(i:Int)<E.length by omega,i0,p1,p3,u1,show e.x.cells.length=4 from rfl,←e_hx];have ib:=GI.vb;have il:=GI.lt F.wf;have tb:=GT.vb;have tl:=GT.lt F.wf;refine Gs.append1 (bytes:=56) (n:=1) F_hx.wf (GI.fr F_hx) (Sl.lit o_hx rfl) (by omega) (by omega) ae.one (by omega) (by rw[aG dD];simp;omega) ?_;intro vI' hy GI' eI FI;have ony:=FI.own _ _ (fun m=>by have:=ib _ m;omega) (F_hx.get on);have c1:=GI'.one;simp only[evs,seval,eff,g7];refine ab (c':=[.int .u8 1,.int .i64 0,.int .i64 0,.int .i64 0,vI']) FI.wf ony (by rw[aB c1];rfl) (by rw[aB c1];simp only[aA,aF,c1];rfl) (by rw[aB c1];rfl) ?_;rintro hz oz Fz nz;have nI:=FI.next;have n3:=F.next;have FN:Fr [] h3 hz:=(Fr.new F3.wf (F.then F_hx) FI (fun z m=>by have:=ib z m;omega)).fresh Fz F3.wf (Nat.le_refl _);have F0z:=F03.then FN;have GIz:=GI'.keep Fz (by simp;omega);have GTz:=((GT.fr F_hx).dj FI (fun z m=>dj z m)).keep Fz (by simp;omega);have dz:∀z∈vb vI',z∉vb vT:=by
    intro z m c;rw[eI,List.mem_singleton]at m;have:=tl z c;omega
   have gz3:ag hz h1.next 0=some vE:=((F3.then FN).get o_h2).ld1 0;obtain⟨bz,oz',q1,q3,q0,q4,q5⟩:=rd F0z;have eqI:((E.take (i+1)).map Ent.x).flatMap Itm.cells=((E.take i).map Ent.x).flatMap Itm.cells++e.x.cells:=by rw[List.take_add_one,p4];simp
   simp(disch:=omega) only[evs,seval,DF,eff,ai,g9,g8,g3,gz3,q1,q5,i0,i1,gl3,p3];cases ek:e.kn with
   |false=>
    have eqT:(E.take (i+1)).filter Ent.kn=(E.take i).filter Ent.kn:=by rw[List.take_add_one,p4,List.filter_append];simp[ek]
    simp only[evs,seval];refine(aj _ _ _).2 ⟨E.length-(i+1),by omega,FN,i+1,vI',vT,(by simp),(by simp[g8]),(by simp[g7]),(by simp[g5]),(by simp[g3]),by omega,oz,by rw[eqI];exact GIz,by rw[eqT];exact GTz,dz,rfl⟩
   |true=>
    obtain⟨hq,e_hq⟩:∃hq,hq=halloc hz [.int .u64 (e.x.key:Int),.int .i64 e.b]:=⟨_,rfl⟩;have F_hq:Fr [] hz hq:=e_hq▸Fr.halloc Fz.wf _;have o_hq:Own hq hz.next [.int .u64 (e.x.key:Int),.int .i64 e.b]:=e_hq▸Own.new Fz.wf _;have nq:hq.next=hz.next+1:=by rw[e_hq];rfl
    simp only[evs,seval,eff,g9,g3,gz3,q1,q0,q4,←e_hq];refine Gs.append1 (bytes:=16) (n:=1) F_hq.wf (GTz.fr F_hq) (Sl.lit o_hq rfl) (by omega) (by omega) rfl (by omega) (by rw[aG (f:=htC) (k:=2) (fun _=>rfl)];have:=List.length_filter_le Ent.kn (E.take i);simp at this⊢;omega) ?_;intro vT' hr GT' eT FT;have FR:Fr [] h3 hr:=Fr.new F3.wf (FN.then F_hq) FT (fun z m=>by have:=tb z m;omega);have onr:=FT.own _ _ (fun m=>by have:=tb _ m;omega) (F_hq.get oz);have GIr:=(GIz.fr F_hq).dj FT (fun z m c=>dz z c m);have il':=GIz.lt Fz.wf;have eqT:(((E.take (i+1)).filter Ent.kn).map Ent.ht).flatMap htC=(((E.take i).filter Ent.kn).map Ent.ht).flatMap htC++[.int .u64 (e.x.key:Int),.int .i64 e.b]:=by rw[List.take_add_one,p4,List.filter_append];simp[ek];rfl
    simp(disch:=omega) only[evs,seval,DF,eff,ai,g9,gz3,q0,q4];refine(aj _ _ _).2 ⟨E.length-(i+1),by omega,FR,i+1,vI',vT',(by simp),(by simp),(by simp[g7]),(by simp[g5]),(by simp[g3]),by omega,onr,by rw[eqI];exact GIr,by rw[eqT];exact GT',?_,rfl⟩;intro z m c;rw[eT,List.mem_singleton]at c;have:=il' z m;omega
  ·have ei:i=E.length:=by omega
   subst ei;rw[List.take_of_length_le (Nat.le_refl _)]at GI GT;have l5:ak hh h3.next 0 5=some [.int .u8 1,.int .i64 0,.int .i64 0,.int .i64 0,vI]:=by rw[on.ld];rfl
   have tb:=GT.vb;have tl:=GT.lt F.wf;have sh:=s3.fr F3.wf F;have oh:=o.fr F0h;simp only[evs,seval,g9,g7,g5,g3,gl3,re.len,show¬(E.length:Int)<E.length by omega,l5];refine aa (Du (N:=h4.next) F.wf sh sk (fun y m=>by have:=wl y m;omega) oh (fun Z h' hZ f e m=>?_) GI) ?_
   ·refine(o.h e m).1.fr (Fr.new w F0h f fun z mz=>?_);have:=F0h.next;rcases hZ z mz with q|q
    ·have:=wl z q;omega
    ·omega
   rintro _ ha ⟨rfl,Fa,X,st,B',S',pm',mc,sa,ev,nz,ix,mc2,wr'⟩;have F0a:Fr [] h ha:=Fr.new w F0h Fa (fun z m=>by have:=wl z m;omega);have na:=Fa.next;simp only[evs,seval,g8,g5];refine aa (Dc Fa.wf sa ix (o.fr F0a) (fun Z h' hZ f=>?_)) ?_
   ·refine Sl.a (Gs.sl (n:=((E.filter Ent.kn).map Ent.ht).length) ((GT.dj Fa (fun z m c=>?_)).dj f (fun z m c=>?_)) (aG (f:=htC) (k:=2) (fun _=>rfl) _) (by omega))
    ·have:=wl z m;have:=tb z c;omega
    ·have:=tb z c;have:=tl z c;rcases hZ z m with q|q
     ·rcases wr' z q with q|q
      ·have:=wl z q;omega
      ·omega
     ·omega
   rintro _ hb ⟨c',rfl,Fb,sb⟩;simp only[evs,seval,g5];have wn:∀y∈Wr b bg B' bm S' bl pm',h.next≤y:=by
    intro y m;rcases wr' y m with q|q
    ·have:=wl y q;omega
    ·have:=F0h.next;omega
   refine⟨b,rfl,Fr.new w F0a Fb (fun z m=>wn z ?_),h2.next,K,X,st,vK',bg,B',bm,S',bl,pm',mc,sb,sk,ev,nz,ix,mc2,wn,F02.next⟩;rcases List.mem_cons.1 m with rfl|m
   ·simp[Wr]
   ·exact List.mem_append.2 (.inr m)
end Go.Ev.Lay
