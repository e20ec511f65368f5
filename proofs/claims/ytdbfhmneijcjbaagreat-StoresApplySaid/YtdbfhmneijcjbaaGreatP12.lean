/- An evaluator of the program, and contracts over it: StbQ to StbZk. -/
import Derived.Test.YtdbfhmneijcjbaaGreatP09
import Derived.Test.YtdbfhmneijcjbaaGreatP11
set_option linter.unusedSimpArgs false
set_option linter.unusedVariables false
set_option linter.constructorNameAsVariable false
set_option linter.unnecessarySimpa false
namespace Go.Ev.Lay
variable{cs:List V}{h':Heap}{Z:List Nat}{va vK vE:V}{pm:Option Nat}{n0:NL}{bg bm bl:Nat}{Ks K:List Knd}{cap:Int}{kn st:List Bool}
open Go.Ev.St
set_option maxRecDepth 4000
def e6:List V:=[ZY 0,.str [],.str [],.nils,.str [],.nils]
def Bd:Str:=[114,111,119]
theorem tU(a n:Nat)(b:Int)(Z:b=n)(h:n≠0):aP (.ib .rem) [ZY (a:Int),ZY b]=some (ZY ((a%n:Nat):Int)):=by subst Z;rw[nm _ _ _ oM];congr 2
theorem JX(a n:Nat)(b:Int)(Z:b=n)(h:n≠0)(ha:a<256):aP (.ib .quo) [ZY (a:Int),ZY b]=some (ZY ((a/n:Nat):Int)):=by subst Z;have:=Nat.div_le_self a n;rw[pZ _ _ _ oM,show Int.tdiv (a:Int) n=((a/n:Nat):Int)from(Int.ofNat_tdiv a n).symm];generalize a/n=q at *;rw[Ft _ oM oM]
theorem CY{h:Heap}{b:Nat}(w:WF h)(hb:b<256):
 ao go 56 [.int .u8 (b:Int)] h fun u h'=>Fr [] h h'∧∃Ks,(∀Z h'',(∀z∈Z,z<h.next)→Fr Z h' h''→Recs Knd.cells 9 h'' u Ks∧∀q∈Ks,KndH h'' q)∧GK Ks∧okR Ks 12=true∧Ks.length=3:=by
 let⟨h1,e_h1,F_h1,o_h1⟩:=aq w [.str [110],.int .u8 3,.str [],.str [116,101,120,116],.int .u8 1,.str []];let⟨h2,e_h2,F_h2,o_h2⟩:=aq F_h1.wf [.int .u8 3,.str [],.str [],.nils,.str [],.nils];let⟨h3,e_h3,F_h3,o_h3⟩:=aq F_h2.wf [.int .u8 0,.str [],.str [],.nils,.str [],.nils];have n1:=hnx e_h1;have n2:=hnx e_h2;have n3:=hnx e_h3;refine ag ?_;simp only[evs,seval,←e_h1,←e_h2,←e_h3];refine stu F_h3.wf o_h3 ?_;rintro h4 o4 F4 n4;let⟨h5,e_h5,F_h5,o_h5⟩:=aq F4.wf [.str [105,100],.int .u8 2,.str []];let⟨h6,e_h6,F_h6,o_h6⟩:=aq F_h5.wf [.int .u8 2,.str [],.str [],.nils,.str [35],.nils,.int .u8 4,.str [],.str [],.nils,.str [],.nils];let⟨h7,e_h7,F_h7,o_h7⟩:=aq F_h6.wf [.int .u8 0,.str [],.str [],.nils,.str [],.nils];simp only[evs,seval,←e_h5,←e_h6,←e_h7];apply stu F_h7.wf o_h7;rintro h8 o8 F8 n8;let⟨h9,e_h9,F_h9,o_h9⟩:=aq F8.wf [.int .u8 3,.str [],.str [],.nils,.str [],.nils];let⟨ha,e_ha,F_ha,o_ha⟩:=aq F_h9.wf [.str [111,102],.int .u8 2,.str []];let⟨hb',e_hb',F_hb',o_hb'⟩:=aq F_ha.wf [.int .u8 1,.str [98],.str [98,50],.nils,.str [],.slice h8.next 0 1 1,.int .u8 5,.str [116,97,103],.str [],.slice h9.next 0 1 1,.str [],.nils];let⟨hc,e_hc,F_hc,o_hc⟩:=aq F_hb'.wf [.int .u8 0,.str [],.str [],.nils,.str [],.nils];simp only[evs,seval,←e_h9,←e_ha,←e_hb',←e_hc];apply stu F_hc.wf o_hc;rintro hd od Fd nd;have n4':h4.next=h2.next+1:=oM;have n5:=hnx e_h5;have n6:=hnx e_h6;have n7:=hnx e_h7;have n9:=hnx e_h9;have na:=hnx e_ha;have nb:=hnx e_hb';have nc:=hnx e_hc;have F47:=F_h5.then (F_h6.then F_h7);have F8c:=F_h9.then (F_ha.then (F_hb'.then F_hc));have o4d:=Fd.own _ _ oO (F8c.get (F8.own _ _ oO (F47.get o4)));have o8d:=Fd.own _ _ oO (F8c.get o8);have p4:aj hd h2.next 0 6=some [.int .u8 1,.str Bd,.str [],.slice h.next 0 2 2,.str [],.slice h1.next 0 1 1]:=by rw[o4d.ld];rfl
 have p8:aj hd h6.next 0 6=some [.int .u8 1,.str [104,101,97,100],.str [104],.slice h4.next 0 1 1,.str [],.slice h5.next 0 2 2]:=by rw[o8d.ld];rfl
 have pd:aj hd hb'.next 0 6=some [.int .u8 1,.str Bd,.str [],.nils,.str [],.slice ha.next 0 2 2]:=by rw[od.ld];rfl
 let k0:Knd:=⟨1,Bd,[],[([110],3,[]),([116,101,120,116],1,[])],[],.slice h.next 0 2 2,.slice h1.next 0 1 1,.cons 3 [] [] [] [] .nils .nils .nil .nil,10+((b%7:Nat):Int),false,((b%4:Nat):Int)⟩;let k1:Knd:=⟨1,[104,101,97,100],[104],[([105,100],2,[])],[],.slice h4.next 0 1 1,.slice h5.next 0 2 2,.cons 2 [] [] [] [35] .nils .nils .nil (.cons 4 [] [] [] [] .nils .nils .nil .nil),6+((b%3:Nat):Int),true,((b/4%3:Nat):Int)⟩;let k2:Knd:=⟨1,Bd,[],[],[],.nils,.slice ha.next 0 2 2,.cons 1 [98] [98,50] [] [] .nils (.slice h8.next 0 1 1) (.cons 3 [] [] [] [] .nils .nils .nil .nil) (.cons 5 [116,97,103] [] [([111,102],2,[])] [] (.slice h9.next 0 1 1) .nils .nil .nil),20,decide (((b%16:Nat):Int)=15),((b/8%3:Nat):Int)⟩;have m7:b%7<7:=Nat.mod_lt _ dI;have m4:b%4<4:=Nat.mod_lt _ dI;have m3:b%3<3:=Nat.mod_lt _ dI;have m43:b/4%3<3:=Nat.mod_lt _ dI;have m83:b/8%3<3:=Nat.mod_lt _ dI;obtain⟨he,e_he⟩:∃he,he=halloc hd (k0.cells++(k1.cells++(k2.cells++[]))):=⟨_,rfl⟩;have F_he:Fr [] hd he:=e_he▸Fr.halloc Fd.wf _;have o_he:Own he hd.next (k0.cells++(k1.cells++(k2.cells++[]))):=e_he▸Own.new Fd.wf _;have t8:∀{B:Nat}{cs:List V},Own h8 B cs→B<hb'.next→Own he B cs:=fun o l=>F_he.get (Fd.own _ _ oO (F8c.get o));have t4:∀{B:Nat}{cs:List V},Own h4 B cs→B<h6.next→Own he B cs:=fun o l=>t8 (F8.own _ _ oO (F47.get o)) oM;have x1:=t4 (F4.own _ _ oO ((F_h2.then F_h3).get o_h1)) oM;have x2:=t4 (F4.own _ _ oO (F_h3.get o_h2)) oM;have x5:=t8 (F8.own _ _ oO ((F_h6.then F_h7).get o_h5)) oM;have x6:=t8 (F8.own _ _ oO (F_h7.get o_h6)) oM;have x9:=F_he.get (Fd.own _ _ oO ((F_ha.then (F_hb'.then F_hc)).get o_h9));have xa:=F_he.get (Fd.own _ _ oO ((F_hb'.then F_hc).get o_ha));have xb:=F_he.get (Fd.own _ _ oO (F_hc.get o_hb'));have h3n:h.next≤h2.next:=oM;have FF:Fr [] h he:=((((((F_h1.then (F_h2.then F_h3)).fresh F4 w oM).then F47).fresh F8 w oM).then F8c).fresh Fd w oM).then F_he;have gk:GK [k0,k1,k2]:=by
  intro q m;simp only[List.mem_cons,List.not_mem_nil,or_false]at m;obtain rfl|rfl|rfl:=m;refine⟨?_,by simp[PG,PT.len,k0],(oM:1≤10+((b%7:Nat):Int)),show 10+((b%7:Nat):Int)≤40 by omega⟩;have:okB (10+((b%7:Nat):Int))=true:=by simp only[okB,Bool.and_eq_true,decide_eq_true_eq];omega
  show(okB (10+((b%7:Nat):Int))&&_)=true;rw[this];rfl;refine⟨?_,by simp[PG,PT.len,k1],(oM:1≤6+((b%3:Nat):Int)),show 6+((b%3:Nat):Int)≤40 by omega⟩;have:okB (6+((b%3:Nat):Int))=true:=by simp only[okB,Bool.and_eq_true,decide_eq_true_eq];omega
  show(okB (6+((b%3:Nat):Int))&&_)=true;rw[this];rfl;exact⟨rfl,by simp[PG,PT.len,k2],(oM:(1:Int)≤20),show(20:Int)≤40 by omega⟩
 have fin:Fr [] h he∧∃Ks,(∀Z h'',(∀z∈Z,z<h.next)→Fr Z he h''→Recs Knd.cells 9 h'' (.slice hd.next 0 3 3) Ks∧∀q∈Ks,KndH h'' q)∧GK Ks∧okR Ks 12=true∧Ks.length=3:=by refine⟨FF,[k0,k1,k2],?_,gk,?_,rfl⟩;intro Z H hZ f;have go:∀{B:Nat}{cs:List V},Own he B cs→h.next≤B→Own H B cs:=fun o l=>f.own _ _ (fun m=>by have:=hZ _ m;omega) o;have x1:=go x1 oM;have x2:=go x2 oM;have x5:=go x5 oM;have x6:=go x6 oM;have x9:=go x9 oM;have xa:=go xa oM;have xb:=go xb oM;refine⟨Sl.lit (go o_he oM) rfl,?_⟩;intro q m;simp only[List.mem_cons,List.not_mem_nil,or_false]at m;obtain rfl|rfl|rfl:=m;exact⟨Nat.le_of_ble_eq_true rfl,Sl.lit x1 rfl,Nat.le_of_ble_eq_true rfl,Sl.lit x2 rfl,Nat.le_of_ble_eq_true rfl,⟨Nat.le_of_ble_eq_true rfl,⟨rfl,rfl⟩,Nat.le_of_ble_eq_true rfl,⟨rfl,rfl⟩,Nat.le_of_ble_eq_true rfl,trivial,trivial⟩,trivial⟩;exact⟨Nat.le_of_ble_eq_true rfl,Sl.lit x5 rfl,Nat.le_of_ble_eq_true rfl,Sl.lit x6 rfl,Nat.le_of_ble_eq_true rfl,⟨Nat.le_of_ble_eq_true rfl,⟨rfl,rfl⟩,Nat.le_of_ble_eq_true rfl,⟨rfl,rfl⟩,Nat.le_of_ble_eq_true rfl,trivial,⟨Nat.le_of_ble_eq_true rfl,⟨rfl,rfl⟩,Nat.le_of_ble_eq_true rfl,⟨rfl,rfl⟩,Nat.le_of_ble_eq_true rfl,trivial,trivial⟩⟩,trivial⟩;exact⟨Nat.le_of_ble_eq_true rfl,⟨rfl,rfl⟩,Nat.le_of_ble_eq_true rfl,Sl.lit xb rfl,Nat.le_of_ble_eq_true rfl,⟨Nat.le_of_ble_eq_true rfl,⟨rfl,rfl⟩,Nat.le_of_ble_eq_true rfl,Sl.lit x9 rfl,Nat.le_of_ble_eq_true rfl,⟨Nat.le_of_ble_eq_true rfl,⟨rfl,rfl⟩,Nat.le_of_ble_eq_true rfl,⟨rfl,rfl⟩,Nat.le_of_ble_eq_true rfl,trivial,trivial⟩,⟨Nat.le_of_ble_eq_true rfl,Sl.lit xa rfl,Nat.le_of_ble_eq_true rfl,⟨rfl,rfl⟩,Nat.le_of_ble_eq_true rfl,trivial,trivial⟩⟩,trivial⟩;have:[k0,k1,k2].all okK=true:=List.all_eq_true.2 fun q m=>(gk q m).1;unfold okR;rw[this];rfl
 simp(disch:=omega) only[evs,seval,ah,p4,p8,pd,tU b 7 7 rfl dI,tU b 4 4 rfl dI,tU b 3 3 rfl dI,JX b 4 4 rfl dI hb,tU (b/4) 3 3 rfl dI,tU b 16 16 rfl dI,JX b 8 8 rfl dI hb,tU (b/8) 3 3 rfl dI];rw[e_he]at fin;exact fin
theorem KH{call:aI}{env:T V}{h:Heap}{k:Nat}{op:IOp}{o:Option (Nat×Nat)}{Rr:List Nat}{Z:List (Nat×Nat×Nat)}{K:List (Nat×Nat)}{Q:Ex->T V->Heap->Prop}(A B:List IStep)(hk:A.length=k)(lc:∀loc,iZ loc env op=some (cs,o))
 (x:WD call env ((A.map fun s=>(s,none))++(⟨none,op,none⟩,some (eF h.next o,cs))::B.map fun s=>(s,none)) [] [halloc h cs] (halloc h cs) (DF call (A++⟨none,op,none⟩::B) Z K env (Q .norm))):
 W call (.dops (A++⟨none,op,none⟩::B) [k] Rr Z K) env h Q:=by
 refine(Dz _ _ _ _ _ _).2 ?_;have e:∀loc,lay call env [k] (⟨none,op,none⟩::B) k loc h=some ((⟨none,op,none⟩,some (eF h.next o,cs))::B.map (fun s=>(s,none)),halloc h cs):=by
  intro loc;have c:List.contains [k] k=true:=by simp
  simp only[lay,c,cond_true,lc,nN B (k+1) _ _ (Nat.lt_succ_self k)]
 rw[wR A 0 [] oM e,jn];exact x
theorem EV{Z:List V}{env:T V}{op:IOp}{o:Option (Nat×Nat)}(n:Nat)(e:iZ Z env op=some (cs,o)):cy Z env op (eF n o) cs=true:=by
 cases o with
 |none=>simp only[cy,e,lid,eF,ew,dZ,Ui]
 |some q=>let⟨q,r⟩:=q;simp only[cy,e,lid,eF,ew,dZ,Ui]
def DR:List Str:=[[],[97],[114,111,119],[116,119,111,32,119,111,114,100,115],[32,32],[126,33,45,44],[97,32,108,111,110,103,101,114,32,116,101,120,116,32,111,102,32,116,104,105,115,32,107,105,110,100],[57]]
theorem Lk(loc:List V)(env:T V)(n:Nat):cy loc env (.bs [(.str [])] [(0,1),(1,1),(2,1),(3,1),(4,1),(5,1),(6,1),(7,1)] 8 [.c (.str []),.c (.str [97]),.c (.str [114,111,119]),.c (.str [116,119,111,32,119,111,114,100,115]),.c (.str [32,32]),.c (.str [126,33,45,44]),.c (.str [97,32,108,111,110,103,101,114,32,116,101,120,116,32,111,102,32,116,104,105,115,32,107,105,110,100]),.c (.str [57])]) (.slice n 0 8 8) (DR.map V.str)=true:=EV (o:=some (8,8)) n rfl
theorem Aq(b n k:Nat):eF b (some (n,k))=.slice b 0 n k:=rfl
abbrev Lb:List IStep:=[⟨none,.p (.ixa 4 1) [.v 1,.c (ZZ 0)],none⟩,⟨none,.ld 1 false (.l 0),none⟩,⟨none,.p (.ib .rem) [.l 0,.c (ZY 60)],none⟩,⟨none,.p (.conv .u64) [.l 0],none⟩,⟨none,.p (.ib .add) [.c (ZX 1),.l 0],none⟩,⟨none,.p (.ixa 4 1) [.v 1,.c (ZZ 1)],none⟩,⟨none,.ld 1 false (.l 0),none⟩,⟨none,.p (.ib .rem) [.l 0,.c (ZY 3)],none⟩]
abbrev La:List IStep:=[⟨none,.p (.ixa 4 1) [.v 1,.c (ZZ 2)],none⟩,⟨none,.ld 1 false (.l 0),none⟩,⟨none,.p (.ib .rem) [.l 0,.c (ZY 8)],none⟩,⟨none,.p (.ixs 1) [.l 3,.l 0],none⟩,⟨none,.ld 1 false (.l 0),none⟩,⟨none,.p (.build [(ZX 0),(ZY 0),(.str []),.nils] [(0,1),(1,1),(2,1)]) [.l 9,.l 6,.l 0],none⟩,⟨none,.al [(ZX 0),(ZY 0),(.str []),.nils],none⟩,⟨none,.st 4 (.l 0) (.l 1),none⟩]
theorem Mc(x:Int)(a n:Nat)(b:Int)(Z:x=a)(K:b=n)(h:n≠0):aP (.ib .rem) [ZZ x,ZZ b]=some (ZZ ((a%n:Nat):Int)):=by subst K;subst Z;rw[nm _ _ _ oM];congr 2
theorem wI(l:List Str):(l.flatMap sS).length=l.length:=by
 induction l with
 |nil=>rfl
 |cons a l ih=>simp only[SL,Sv,ih,SG];show 1+_=_;omega
theorem _root_.Go.Ev.Gs.keep{h:Heap}{B e:Nat}{v:V}(g:Gs h B e v cs)(f:Fr Z h h')(hZ:∀z∈Z,z<B):Gs h' B e v cs:=by obtain z|⟨b,n,K,z2,z3,z4,o⟩:=g;exact .inl z;exact .inr ⟨b,n,K,z2,z3,z4,f.own _ _ (fun m=>by have:=hZ _ m;omega) o⟩
theorem _root_.Go.Ev.Gs.vb{h:Heap}{B e:Nat}{v:V}(g:Gs h B e v cs):∀z∈vb v,B<=z:=by obtain⟨rfl,_⟩|⟨b,n,rfl,_,_,z4,_⟩:=g;simp[Go.Ev.vb];intro z m;simp[Go.Ev.vb]at m;omega
theorem _root_.Go.Ev.Gs.le{h:Heap}{B C e:Nat}{v:V}(g:Gs h B e v cs)(l:C<=B):Gs h C e v cs:=by obtain z|⟨b,n,Z,K,z3,z4,o⟩:=g;exact .inl z;exact .inr ⟨b,n,Z,K,z3,oM,o⟩
structure ItmG(N:Nat)(h:Heap)(x:Itm):Prop where
 k:x.key<18446744073709551616
 t:x.type<256
 g:Gs h N 1 x.vm (x.marks.flatMap sS)
 n:x.marks.length<=4096
 l:x.text.length<16777216
theorem ItmG.H{N:Nat}{h:Heap}{x:Itm}(a:ItmG N h x):ItmH h x:=⟨a.k,a.t,Sl.a (VW (n:=x.marks.length) a.g (by rw[wI];exact(Uh _).symm) oM),a.n,a.l⟩
theorem ItmG.keep{N:Nat}{h:Heap}{x:Itm}(a:ItmG N h x)(f:Fr Z h h')(d:∀z∈Z,z∉vb x.vm):ItmG N h' x:=by refine⟨a.k,a.t,?_,a.n,a.l⟩;obtain z|⟨b,n,K,z2,z3,z4,o⟩:=a.g;exact .inl z;exact .inr ⟨b,n,K,z2,z3,z4,f.own _ _ (fun m=>d _ m (by rw[K];simp[vb])) o⟩
def mk3:List Str:=[[97],[98,50],[107,101,121]]
theorem H6{h:Heap}{b0 b1 b2 b3:Nat}(w:WF h)(h0:b0<256)(bo:b1<256)(bw:b2<256)(bj:b3<256):
 ao go 112 [.agg [ZY (b0:Int),ZY (b1:Int),ZY (b2:Int),ZY (b3:Int)]] h fun u h'=>Fr [] h h'/\∃x:Itm,u=.agg x.cells/\ItmG h.next h' x:=by
 let⟨h1,e_h1,F_h1,o_h1⟩:=aq w [ZY (b0:Int),ZY (b1:Int),ZY (b2:Int),ZY (b3:Int)];let⟨h2,e_h2,F_h2,o_h2⟩:=aq F_h1.wf [ZX 0,ZY 0,.str [],.nils];have l0:ab h2 h.next 0=some (ZY (b0:Int)):=(F_h2.get o_h1).ld1 0;have l1:ab h2 h.next 1=some (ZY (b1:Int)):=(F_h2.get o_h1).ld1 1;have l2:ab h2 h.next 2=some (ZY (b2:Int)):=(F_h2.get o_h1).ld1 2;have l3:ab h2 h.next 3=some (ZY (b3:Int)):=(F_h2.get o_h1).ld1 3;refine ag ?_;simp only[evs,seval,<-e_h1,<-e_h2];have n1:=hnx e_h1;have n2:=hnx e_h2;refine KH (op:=.bs [(.str [])] [(0,1),(1,1),(2,1),(3,1),(4,1),(5,1),(6,1),(7,1)] 8 [.c (.str []),.c (.str [97]),.c (.str [114,111,119]),.c (.str [116,119,111,32,119,111,114,100,115]),.c (.str [32,32]),.c (.str [126,33,45,44]),.c (.str [97,32,108,111,110,103,101,114,32,116,101,120,116,32,111,102,32,116,104,105,115,32,107,105,110,100]),.c (.str [57])]) Lb La rfl (fun _=>rfl) (cs:=DR.map V.str) (o:=some (8,8)) ?_;obtain⟨h3,ak⟩:∃h3,h3=halloc h2 (DR.map V.str):=⟨_,rfl⟩;have Z:Fr [] h2 h3:=ak▸SO F_h2.wf _;have ay:Own h3 h2.next (DR.map V.str):=ak▸Ts F_h2.wf _;have bk:=Z;have m0:ab h3 h.next 0=some (ZY (b0:Int)):=(Z.get (F_h2.get o_h1)).ld1 0;have m1:ab h3 h.next 1=some (ZY (b1:Int)):=(Z.get (F_h2.get o_h1)).ld1 1;have m2:ab h3 h.next 2=some (ZY (b2:Int)):=(Z.get (F_h2.get o_h1)).ld1 2;let⟨h4,e_h4,F_h4,o_h4⟩:=aq Z.wf [ZX 0,ZY 0,.str [],.nils];have n3:=hnx ak;have xa:∀i:Nat,i<4->aP (.ixa 4 1) [.ptr h.next 0,ZZ (i:Int)]=some (.ptr h.next i):=fun i hi=>by rw[xM 1 h.next 0 4 _ _ oM oM];simp
 have x0:aP (.ixa 4 1) [.ptr h.next 0,ZZ 0]=some (.ptr h.next 0):=xa 0 oM;have x1:aP (.ixa 4 1) [.ptr h.next 0,ZZ 1]=some (.ptr h.next 1):=xa 1 oM;have x2:aP (.ixa 4 1) [.ptr h.next 0,ZZ 2]=some (.ptr h.next 2):=xa 2 oM;have x3:aP (.ixa 4 1) [.ptr h.next 0,ZZ 3]=some (.ptr h.next 3):=xa 3 oM;have bm:b2%8<8:=TY _ dI;let⟨bt,ot,x8,y8,_⟩:=Sl.ix (esz:=1) (v:=.slice h2.next 0 8 8) (n:=8) (TH ay rfl) .u8 ((b2%8:Nat):Int) oM oM;obtain⟨tx,tb⟩:∃tx,DR[b2%8]? =some tx/\tx.length<30:=by
  have:b2%8<8:=TY _ dI;match b2%8,this with
  |0,_|1,_|2,_|3,_|4,_|5,_|6,_|7,_=>exact⟨_,rfl,dI⟩
 have t0:ab h3 bt ot=some (.str tx):=by grind
 simp(disch:=omega) only[evs,seval,eff,m0,m1,m2,<-ak,Lb,La,cK,Lk,Aq,tU b0 60 60 rfl dI,tU b1 3 3 rfl dI,tU b2 8 8 rfl dI,t0,<-e_h4,x0,x1,x2,x8,dG];refine stu F_h4.wf o_h4 ?_;rintro h5 o5 F5 n5;have F4:=F_h4;have k0:ab h4 h.next 0=some (ZY (b0:Int)):=(F4.get (Z.get (F_h2.get o_h1))).ld1 0;have k1:ab h4 h.next 1=some (ZY (b1:Int)):=(F4.get (Z.get (F_h2.get o_h1))).ld1 1;have k2:ab h4 h.next 2=some (ZY (b2:Int)):=(F4.get (Z.get (F_h2.get o_h1))).ld1 2;have FF:Fr [] h h5:=(F_h1.then (F_h2.then (Z.then F_h4))).fresh F5 w oM;have ob:=F5.own _ _ oO (F4.get (Z.get (F_h2.get o_h1)));let⟨bt',ot',a5,y8',_⟩:=Sl.ix (esz:=1) (v:=.slice h2.next 0 8 8) (n:=8) (TH (F4.get ay) rfl) .u8 ((b2%8:Nat):Int) oM oM;rw[x8]at a5;cases a5;have t4:ab h4 bt ot=some (.str tx):=by grind
 have o2:=F5.own _ _ oO (F4.get (Z.get o_h2));simp only[evs,seval,DF,m0,m1,m2,k0,k1,k2,t0,t4];have n4:=hnx e_h4;refine aC (fun n env hh=>Fr [] h hh/\∃(i:Nat)(vm:V)(ms:List Str),env.get 4=some (ZZ i)/\env.get 3=some (.ptr h3.next 0)/\env.get 1=some (.ptr h.next 0)/\env.get 2=some (.ptr h1.next 0)/\i<=3/\
  Own hh h.next [ZY (b0:Int),ZY (b1:Int),ZY (b2:Int),ZY (b3:Int)]/\Own hh h1.next [ZX 0,ZY 0,.str [],.nils]/\Own hh h3.next [ZX (1+((b0%60:Nat):Int)),ZY ((b1%3:Nat):Int),.str tx,vm]/\Gs hh h4.next 1 vm (ms.flatMap sS)/\h4.next<=hh.next/\ms.length<=i/\n=3-i) 3 oM ?_ ?_
 exact⟨FF,0,.nils,[],iS,iS,iS,iS,oM,ob,o2,o5,.inl ⟨rfl,rfl⟩,oM,iS,rfl⟩;rintro n env hh ⟨F,i,vm,ms,g4,g3,g1,g2,hi,ob,o2,oi,G,nx,ml,rfl⟩;have p3:ab hh h.next 3=some (ZY (b3:Int)):=ob.ld1 3;have v3:ab hh h3.next 3=some vm:=oi.ld1 3;by_cases bn:i<3;have ax:(i:Int)<3:=oM;obtain⟨s,xs⟩:∃s,aP (.sh false) [ZY (b3:Int),ZZ (i:Int)]=some (ZY s):=⟨_,AV _ _ _ _ oM⟩;obtain⟨y,xy⟩:∃y,aP (.ib .and) [ZY s,ZY 1]=some (ZY y):=⟨_,G8 _ _ _⟩;by_cases c:0<y;let⟨a1,e_a1,F_a1,o_a1⟩:=aq F.wf [.str [97],.str [98,50],.str [107,101,121]];have m3:(i+b3/8)%3<3:=TY _ dI;have xq:∀{H},Fr [] a1 H->∃bs os,aP (.ixs 1) [.slice hh.next 0 3 3,ZZ (((i+b3/8)%3:Nat):Int)]=some (.ptr bs os)/\ab H bs os=(mk3.map V.str)[(i+b3/8)%3]? :=by intro H f;let⟨bs,os,xq,yq,_⟩:=Sl.ix (esz:=1) (v:=.slice hh.next 0 3 3) (n:=3) (TH (f.get o_a1) rfl) .i64 (((i+b3/8)%3:Nat):Int) oM oM;refine⟨bs,os,xq,?_⟩;have:=yq 0 oM;rw[RX,Uh,Um,Um]at this;exact this
 obtain⟨mk,em⟩:∃mk,(mk3.map V.str)[(i+b3/8)%3]? =some (.str mk):=by
  match(i+b3/8)%3,m3 with
  |0,_|1,_|2,_=>exact⟨_,rfl⟩
 rw[em]at xq;let⟨bs,os,xq1,t1⟩:=xq (Sn F_a1.wf);let⟨a2,e_a2,F_a2,o_a2⟩:=aq F_a1.wf [.str mk];let⟨_,_,a6,t2⟩:=xq F_a2;rw[xq1]at a6;cases a6;have ba:=hnx e_a1;have bp:=hnx e_a2;have ae:=F_a1.then F_a2;have a8:ab a1 h.next 3=some (ZY (b3:Int)):=(F_a1.get ob).ld1 3;have bv:ab a2 h.next 3=some (ZY (b3:Int)):=(ae.get ob).ld1 3;have bi:ab a1 h3.next 3=some vm:=(F_a1.get oi).ld1 3;have bc:ab a2 h3.next 3=some vm:=(ae.get oi).ld1 3;simp(disch:=omega) only[evs,seval,eff,ah,g4,g3,g1,ax,x3,p3,xs,xy,eq_true c,v3,<-e_a1,JX b3 8 8 rfl dI bj,ah,Mc ((i:Int)+((b3/8:Nat):Int)) (i+b3/8) 3 3 oM rfl dI,xq1,t1,<-e_a2,a8];have an:=wI ms;refine Uw (bytes:=16) (n:=1) F_a2.wf (G.fr ae) (TH o_a2 rfl) oM oM rfl oM (by rw[an];omega) ?_;intro K a3 G3 e3 F3;have ac:=G.vb;have a0:=F3.own _ _ (fun m=>by have:=ac _ m;omega) (ae.get oi);have br:ab a3 h.next 3=some (ZY (b3:Int)):=(F3.own _ _ (fun m=>by have:=ac _ m;omega) (ae.get ob)).ld1 3;have bh:=F3.next;have c1:K.one=true:=by obtain⟨rfl,_⟩|⟨b,n,rfl,_⟩:=G3<;>rfl
 simp only[evs,seval,eff,g3];refine ai (c':=[ZX (1+((b0%60:Nat):Int)),ZY ((b1%3:Nat):Int),.str tx,K]) F3.wf a0 (by rw[aw c1];rfl) (by rw[aw c1];simp only[av,aB,c1];rfl) (by rw[aw c1];rfl) ?_;rintro a4 aH af bg;simp(disch:=omega) only[evs,seval,DF,ah,g4,p3,a8,v3,bi,bc,t1];have FN:Fr [] h a4:=(TL w (F.then ae) F3 (fun y hy=>by have:=ac _ hy;omega)).fresh af w oM;have eq:(ms++[mk]).flatMap sS=ms.flatMap sS++[.str mk]:=by simp[sS]
 refine rqn ⟨3-(i+1),oM,FN,i+1,K,ms++[mk],iS,iX,iX,iX,oM,af.own _ _ oO (F3.own _ _ (fun m=>by have:=ac _ m;omega) (ae.get ob)),af.own _ _ oO (F3.own _ _ (fun m=>by have:=ac _ m;omega) (ae.get o2)),aH,by rw[eq];exact G3.keep af oO,oM,by simp;omega,rfl⟩;simp(disch:=omega) only[evs,seval,ah,g4,g1,ax,x3,p3,xs,xy,eq_false c];refine rqn ⟨3-(i+1),oM,F,i+1,vm,ms,iS,iX,iX,iX,oM,ob,o2,oi,G,nx,oM,rfl⟩;have a7:¬(i:Int)<3:=oM;by_cases c:(240:Int)<=b3;let⟨a1,e_a1,F_a1,o_a1⟩:=aq F.wf [.str [97],.str [97]];simp only[evs,seval,g4,g3,g1,eq_false a7,x3,p3,eq_true c,v3,<-e_a1];have an:=wI ms;have ba:=hnx e_a1;refine Uw (bytes:=16) (n:=2) F_a1.wf (G.fr F_a1) (TH o_a1 rfl) oM oM rfl oM (by rw[an];omega) ?_;intro K a3 G3 e3 F3;have ac:=G.vb;have a0:=F3.own _ _ (fun m=>by have:=ac _ m;omega) (F_a1.get oi);have bh:=F3.next;have c1:K.one=true:=by obtain⟨rfl,_⟩|⟨b,n,rfl,_⟩:=G3<;>rfl
 simp only[evs,seval,g3];refine ai (c':=[ZX (1+((b0%60:Nat):Int)),ZY ((b1%3:Nat):Int),.str tx,K]) F3.wf a0 (by rw[aw c1];rfl) (by rw[aw c1];simp only[av,aB,c1];rfl) (by rw[aw c1];rfl) ?_;rintro a4 aH af bg;have FN:Fr [] h a4:=(TL w (F.then F_a1) F3 (fun y hy=>by have:=ac _ hy;omega)).fresh af w oM;have eq:(ms++[[97],[97]]).flatMap sS=ms.flatMap sS++[.str [97],.str [97]]:=by simp[sS]
 have a9:=af.own _ _ oO (F3.own _ _ (fun m=>by have:=ac _ m;omega) (F_a1.get o2));have G4:Gs a4 h4.next 1 K ((ms++[[97],[97]]).flatMap sS):=by rw[eq];exact G3.keep af oO
 have ld:aj a4 h3.next 0 4=some [ZX (1+((b0%60:Nat):Int)),ZY ((b1%3:Nat):Int),.str tx,K]:=by rw[(aH).ld];rfl
 simp only[evs,seval,g3,g2,ld];refine ai (o:=0) (v:=.agg [ZX (1+((b0%60:Nat):Int)),ZY ((b1%3:Nat):Int),.str tx,K]) (c':=[ZX (1+((b0%60:Nat):Int)),ZY ((b1%3:Nat):Int),.str tx,K]) (FN).wf (a9) rfl (by show au [_,_,_,_]=true;simp only[av,aB,c1];rfl) rfl ?_;rintro z o5 ar bf;have az:aj z h1.next 0 4=some [ZX (1+((b0%60:Nat):Int)),ZY ((b1%3:Nat):Int),.str tx,K]:=by rw[o5.ld];rfl
 simp only[evs,seval,g2,az];refine⟨(FN).fresh ar w oM,⟨1+b0%60,b1%3,tx,ms++[[97],[97]],K⟩,rfl,by show 1+b0%60<_;omega,by show b1%3<256;omega,?_,by show(ms++[[97],[97]]).length<=4096;simp;omega,by show tx.length<16777216;omega⟩;exact((G4).keep ar oO).le oM;simp only[evs,seval,g4,g3,g1,eq_false a7,x3,p3,eq_false c];have c1:vm.one=true:=by obtain⟨rfl,_⟩|⟨b,n,rfl,_⟩:=G<;>rfl
 have ld:aj hh h3.next 0 4=some [ZX (1+((b0%60:Nat):Int)),ZY ((b1%3:Nat):Int),.str tx,vm]:=by rw[(oi).ld];rfl
 simp only[evs,seval,ld,g2];refine ai (o:=0) (v:=.agg [ZX (1+((b0%60:Nat):Int)),ZY ((b1%3:Nat):Int),.str tx,vm]) (c':=[ZX (1+((b0%60:Nat):Int)),ZY ((b1%3:Nat):Int),.str tx,vm]) (F).wf (o2) rfl (by show au [_,_,_,_]=true;simp only[av,aB,c1];rfl) rfl ?_;rintro z o5 ar bf;have az:aj z h1.next 0 4=some [ZX (1+((b0%60:Nat):Int)),ZY ((b1%3:Nat):Int),.str tx,vm]:=by rw[o5.ld];rfl
 simp only[evs,seval,g2,az];refine⟨(F).fresh ar w oM,⟨1+b0%60,b1%3,tx,ms,vm⟩,rfl,by show 1+b0%60<_;omega,by show b1%3<256;omega,?_,by show(ms).length<=4096;omega,by show tx.length<16777216;omega⟩;exact((G).keep ar oO).le oM
def q4(q:Nat×Nat×Nat×Nat):List V:=[ZY (q.1:Int),ZY (q.2.1:Int),ZY (q.2.2.1:Int),ZY (q.2.2.2:Int)]
structure IL(N:Nat)(h:Heap)(v:V)(X:List Itm):Prop where
 g:Gs h N 4 v (X.flatMap Itm.cells)
 i:∀x∈X,ItmG N h x
 d:∀x∈X,∀z∈vb v,z∉vb x.vm
 n:(X.map Itm.key).Nodup
theorem IL.fr{N:Nat}{h:Heap}{v:V}{X:List Itm}(a:IL N h v X)(f:Fr [] h h'):IL N h' v X:=⟨a.g.fr f,fun x m=>(a.i x m).keep f iS,a.d,a.n⟩
theorem IL.keep{N:Nat}{h:Heap}{v:V}{X:List Itm}(a:IL N h v X)(f:Fr Z h h')(l:∀z∈Z,z<N):IL N h' v X:=
 ⟨a.g.keep f l,fun x m=>(a.i x m).keep f (fun z hz c=>by have:=l z hz;have:=(a.i x m).g.vb z c;omega),a.d,a.n⟩
theorem ItmG.le{N M:Nat}{h:Heap}{x:Itm}(a:ItmG N h x)(l:M<=N):ItmG M h x:=⟨a.k,a.t,a.g.le l,a.n,a.l⟩
theorem IL.le{N M:Nat}{h:Heap}{v:V}{X:List Itm}(a:IL N h v X)(l:M<=N):IL M h v X:=⟨a.g.le l,fun x m=>(a.i x m).le l,a.d,a.n⟩
theorem IL.rs{N:Nat}{h:Heap}{v:V}{X:List Itm}(a:IL N h v X):Recs Itm.cells 4 h v X:=VW (n:=X.length) a.g (aJ aZ X) oM
theorem _root_.Go.Ev.Gs.lt{h:Heap}{B e:Nat}{v:V}(w:WF h)(g:Gs h B e v cs):∀z∈vb v,z<h.next:=by obtain⟨rfl,_⟩|⟨b,n,rfl,_,_,_,o⟩:=g;simp[Go.Ev.vb];intro z m;simp[Go.Ev.vb]at m;have:=o.lt w;omega
theorem J5{h:Heap}{v:V}{L:List (Nat×Nat×Nat×Nat)}(w:WF h)(a:ARecs q4 4 h v L)(hb:∀q∈L,q.1<256/\q.2.1<256/\q.2.2.1<256/\q.2.2.2<256):
 ao go 57 [.agg [v]] h fun u h'=>Fr [] h h'/\∃X,IL h.next h' u X/\X.length<=12:=by
 let⟨h1,e_h1,F_h1,o_h1⟩:=aq w [v];have n1:=hnx e_h1;refine ag ?_;simp only[evs,seval,<-e_h1];refine aC (fun n env hh=>Fr [] h hh/\Fr [] h1 hh/\∃(i:Nat)(u:V)(X:List Itm),env.get 4=some (ZZ i)/\env.get 3=some u/\env.get 1=some (.ptr h.next 0)/\i<=L.length/\i<=12/\X.length<=i/\IL h1.next hh u X/\n=12-i) 12 oM ?_ ?_;exact⟨F_h1,Sn F_h1.wf,0,.nils,[],iS,iS,iS,oM,oM,iS,⟨.inl ⟨rfl,rfl⟩,iS,iS,iS⟩,rfl⟩;rintro n env hh ⟨F,F1,i,u,X,g4,g3,g1,hi,a0,hX,il,rfl⟩;have ob:=F1.get o_h1;have l0:ab hh h.next 0=some v:=ob.ld1 0;have len:=(a.fr F).len;by_cases c1:i<L.length;by_cases c2:i<12;let⟨bi,oi,q,p1,_,p3,p4⟩:=(a.fr F).ix (f:=q4) (k:=4) (fun _=>rfl) .i64 (i:Int) oM oM;rw[RX]at p4;let⟨b1,b2,b3,b4⟩:=hb q (RZ p4);simp only[evs,seval,g4,g1,l0,len,(oM:(i:Int)<L.length),(oM:(i:Int)<12),p1,p3];refine aa (H6 F.wf b1 b2 b3 b4) ?_;rintro _ h2 ⟨F2,x,rfl,gx⟩;let⟨h3,e_h3,F_h3,o_h3⟩:=aq F2.wf [ZX 0,ZY 0,.str [],.nils];simp only[evs,seval,<-e_h3];refine ai (c':=x.cells) F_h3.wf o_h3 rfl gx.H.one rfl ?_;rintro h4 o4 F4 n4;have n3:=hnx e_h3;have n2:=F2.next;have nh:=F1.next;have af:Fr [] h2 h4:=F_h3.fresh F4 F2.wf oM;have K:=F2.then af;have ac:=il.fr K;have ax:=gx.keep af iS;have k0:ab h4 h2.next 0=some (ZX (x.key:Int)):=o4.ld1 0;have ar:aj h4 h2.next 0 4=some x.cells:=by rw[o4.ld];rfl
 simp only[evs,seval,g3,k0];refine aa (FA ac.rs oM) ?_;rintro _ _ ⟨rfl,r,rfl,hr⟩;by_cases c3:r<0;let⟨h5,e_h5,F_h5,o_h5⟩:=aq F4.wf x.cells;have u1:bu [ZX 0,ZY 0,.str [],.nils] 0 x.cells=some x.cells:=rfl;simp only[evs,seval,g3,eq_true c3,ar,(iR:x.cells.length=4),u1,<-e_h5];have n5:=hnx e_h5;have Z:=ac.fr F_h5;have an:=ax.keep F_h5 iS;refine Uw (bytes:=56) (n:=1) F_h5.wf Z.g (TH o_h5 rfl) oM oM gx.H.one oM (by rw[aJ aZ X];omega) ?_;intro u' h6 G6 e6 F6;have ul:=il.g.lt F.wf;have ub:=il.g.vb;have xb:=gx.g.vb;have az:=an.keep F6 (fun z m c=>by have:=ul z m;have:=xb z c;omega);have i6:∀y∈X,ItmG h1.next h6 y:=fun y m=>(Z.i y m).keep F6 (Z.d y m);have xl:=an.g.lt F_h5.wf;have n6:=F6.next;have ae:=K.then F_h5;have FN:Fr [] h h6:=TL w (F.then ae) F6 (fun y hy=>by have:=ub _ hy;omega);have ay:Fr [] h1 h6:=TL F_h1.wf (F1.then ae) F6 (fun y hy=>ub _ hy);have eq:(X++[x]).flatMap Itm.cells=X.flatMap Itm.cells++x.cells:=by simp
 have nk:∀y∈X,y.key≠x.key:=fun y m e=>by have:=hr.2 ⟨y,m,e⟩;omega
 have aH:IL h1.next h6 u' (X++[x]):=by refine⟨by rw[eq];exact G6,?_,?_,?_⟩;intro y m;obtain m|m:=pi.1 m;exact i6 y m;rw[Su.1 m];exact az.le oM;intro y m z hz c;rw[e6,Su]at hz;subst hz;obtain m|m:=pi.1 m;have:=(Z.i y m).g.lt F_h5.wf _ c;omega;grind;rw[SF,Uq];refine⟨il.n,iS,?_⟩;intro p hp p' ak e;obtain⟨y,ym,rfl⟩:=SX.1 hp;simp only[Td,UR,Su]at ak;exact nk y ym (by rw[e,ak])
 simp(disch:=omega) only[evs,seval,ah,g4];refine rqn ⟨12-(i+1),oM,FN,ay,i+1,u',X++[x],iS,iS,iX,oM,oM,by simp;omega,aH,rfl⟩;simp(disch:=omega) only[evs,seval,ah,g4,eq_false c3];refine rqn ⟨12-(i+1),oM,F.then K,F1.then K,i+1,u,X,iS,iX,iX,oM,oM,oM,ac,rfl⟩;simp only[evs,seval,g4,g3,g1,l0,len,(oM:(i:Int)<L.length),(oM:¬(i:Int)<12)];exact⟨F,X,il.le oM,oM⟩;simp only[evs,seval,g4,g3,g1,l0,len,(oM:¬(i:Int)<L.length)];exact⟨F,X,il.le oM,oM⟩
structure Ent where
 x:Itm
 b:Int
 kn:Bool
def Ent.cells(e:Ent):List V:=e.x.ent e.b e.kn
theorem aR(e:Ent):e.cells.length=6:=rfl
def b8(n:Nat):List V:=[ZY (n:Int)]
structure EOk(Ks:List Knd)(X:List Itm)(e:Ent):Prop where
 m:e.x∈X
 o:okI e.x 3=true
 r:bO Ks 12 e.x=0
 b:e.kn=false->e.b=aF Ks e.x
 c:e.kn=true->1<=e.b/\e.b<=40
set_option maxHeartbeats 1000000 in
theorem Kd{h:Heap}{vI vH:V}{kb:Nat}{L:List (Nat×Nat×Nat×Nat)}{H:List Nat}(w:WF h)(a:ARecs q4 4 h vI L)(hb:∀q∈L,q.1<256/\q.2.1<256/\q.2.2.1<256/\q.2.2.2<256)
 (aH:ARecs b8 1 h vH H) (hH:∀n∈H,n<256) (hk:kb<256):
 ao go 16 [.agg [vI,vH,ZY (kb:Int)]] h fun u h'=>Fr [] h h'/\∃vK Ks vX X vE,∃E:List Ent,u=.tup [.agg [vK,ZZ 12],.agg [vE]]/\Recs Knd.cells 9 h' vK Ks/\(∀q∈Ks,KndH h' q)/\GK Ks/\okR Ks 12=true/\Ks.length=3/\
  IL h.next h' vX X/\Gs h' h.next 6 vE (E.flatMap Ent.cells)/\(∀e∈E,EOk Ks X e)/\(E.map fun e=>e.x.key).Nodup/\E.length<=12:=by
 let⟨h1,e_h1,F_h1,o_h1⟩:=aq w [vI,vH,ZY (kb:Int)];let⟨h2,e_h2,F_h2,o_h2⟩:=aq F_h1.wf [.nils,ZZ 0];let⟨h3,e_h3,F_h3,o_h3⟩:=aq F_h2.wf [.nils];have n1:=hnx e_h1;have n2:=hnx e_h2;have n3:=hnx e_h3;have a9:=F_h2.then F_h3;have k2:ab h3 h.next 2=some (ZY (kb:Int)):=(a9.get o_h1).ld1 2;refine ag ?_;simp only[evs,seval,<-e_h1,<-e_h2,<-e_h3,k2];refine aa (CY F_h3.wf hk) ?_;rintro vK h4 ⟨F4,Ks,bj,gk,bp,lk⟩;let⟨rk,kh⟩:=bj [] h4 iS (Sn F4.wf);have v1:=TI rk;have o4:=F4.get (a9.get o_h1);let⟨h5,e_h5,F_h5,o_h5⟩:=aq F4.wf [.nils,ZZ 0];have n4:=F4.next;have n5:=hnx e_h5;simp only[evs,seval,aw v1,<-e_h5];refine ai (o:=0) (v:=.agg [vK,ZZ 12]) (c':=[vK,ZZ 12]) F_h5.wf o_h5 rfl (by show au [_,_]=true;simp only[av,aB,v1];rfl) rfl ?_;rintro h6 o6 F6 n6;have an:Fr [] h4 h6:=F_h5.fresh F6 F4.wf oM;have l0:aj h6 h.next 0 1=some [vI]:=by rw[(an.get o4).ld];rfl
 have bg:=(F_h1.then a9).then (F4.then an);simp only[evs,seval,l0];apply aa (J5 an.wf (a.fr bg) hb);rintro vX h7 ⟨F7,X,il,hX⟩;let⟨h8,e_h8,F_h8,o_h8⟩:=aq F7.wf [.nils];have n7:=F7.next;have n8:=hnx e_h8;simp only[evs,<-e_h8];have a8:=bg.then F7;have bt:=F7.get (an.get o4);have a0:=F7.get o6;have FH:Fr [] h h8:=a8.then F_h8;have oa:=F_h8.get (F7.get (an.get (F4.get (F_h3.get o_h2))));have oc:=F_h8.get (F7.get (an.get (F4.get o_h3)));refine aC (fun n env hh=>Fr [] h7 hh/\∃(i:Nat)(vE:V)(E:List Ent),env.get 7=some (ZZ i)/\env.get 1=some (.ptr h.next 0)/\env.get 2=some (.ptr h1.next 0)/\env.get 3=some (.ptr h2.next 0)/\env.get 4=some (.ptr h4.next 0)/\env.get 5=some vX/\env.get 6=some (.ptr h7.next 0)/\
  i<=X.length/\Own hh h1.next [.nils,ZZ 0]/\Own hh h2.next [.nils]/\Own hh h7.next [vE]/\Gs hh h8.next 6 vE (E.flatMap Ent.cells)/\(∀e∈E,EOk Ks X e)/\(E.map Ent.x).Sublist (X.take i)/\n=X.length-i) X.length oM ?_ ?_
 exact⟨F_h8,0,.nils,[],iS,iS,iS,iS,iS,iS,iS,oM,oa,oc,o_h8,.inl ⟨rfl,rfl⟩,iS,iS,rfl⟩;rintro n env hh ⟨G,i,vE,E,g7,g1,g2,g3,g4,g5,g6,hi,oa,oc,oe,GE,a3,sub,rfl⟩;have ba:=il.fr G;have len:=ba.rs.len;have El:E.length<=i:=by have:=sub.length_le;simp only[UG,UO]at this;omega
 by_cases c1:i<X.length;let⟨bi,oi,x,p1,_,p3,p4⟩:=Vi aZ ba.rs .i64 (i:Int) oM oM;rw[RX]at p4;have xm:=RZ p4;have kl:aj hh h4.next 0 2=some [vK,ZZ 12]:=by rw[(G.get a0).ld];rfl
 have a6:Fr [] h4 hh:=an.then (F7.then G);simp only[evs,seval,eff,g7,g4,g5,len,(oM:(i:Int)<X.length),kl,p1,p3];apply aa (E6 G.wf (TK rk a6) (fun q m=>(kh q m).fr a6) gk oM (ba.i x xm).H);rintro _ ha ⟨Fa,e,rfl,e0,he⟩;have Ga:=G.then Fa;have bw:aj ha h4.next 0 2=some [vK,ZZ 12]:=by rw[(Ga.get a0).ld];rfl
 let⟨bi',oi',x',a4,_,p3',a1⟩:=Vi aZ (il.fr Ga).rs .i64 (i:Int) oM oM;rw[RX,p4]at a1;cases a1;rw[p1]at a4;cases a4;by_cases c2:0<e;simp(disch:=omega) only[evs,seval,DF,eff,ah,g7,g4,kl,p3,eq_true c2];refine rqn ⟨X.length-(i+1),oM,Ga,i+1,vE,E,iS,iX,iX,iX,iX,iX,iX,oM,Fa.get oa,Fa.get oc,Fa.get oe,GE.fr Fa,a3,sub.trans (List.take_sublist_take_left oM),rfl⟩;simp only[evs,seval,DF,eff,g4,kl,p3,eq_false c2];let⟨okx,rex⟩:=he oM;have ht:x.type<Ks.length:=by have:=okx;simp only[okI,RU,decide_eq_true_eq]at this;exact this.2.1
 apply tJ [⟨none,.ld 2 true (.v 4),none⟩,⟨none,.p .mv [.v 5],none⟩,⟨none,.p .mv [.v 7],none⟩,⟨none,.p (.ixs 4) [.l 1,.l 0],none⟩,⟨none,.ld 4 true (.l 0),none⟩,⟨none,.cf 59 [.l 4,.l 0],none⟩] [⟨none,.st 6 (.l 0) (.l 1),none⟩] rfl;let⟨hb,e_hb,F_hb,o_hb⟩:=aq Fa.wf [ZX 0,ZY 0,.str [],.nils,ZZ 0,.bool false];have nb:=hnx e_hb;have na:=Ga.next;have it:∀{H},Fr [] h7 H->aj H bi oi 4=some x.cells:=by intro H f;let⟨bi',oi',x',a4,_,p3',a1⟩:=Vi aZ (il.fr f).rs .i64 (i:Int) oM oM;rw[RX,p4]at a1;cases a1;rw[p1]at a4;cases a4;exact p3'
 have kk:∀{H},Fr [] h7 H->aj H h4.next 0 2=some [vK,ZZ 12]:=by intro H f;rw[(f.get a0).ld];rfl
 have Gb:=Ga.then F_hb;simp only[evs,seval,eff,<-e_hb,g7,g4,g5,kk Gb,p1,it Gb];apply aa (Db F_hb.wf (TK rk (an.then (F7.then Gb))) ((il.fr Gb).i x xm).H ht);rintro _ hc ⟨rfl,Fc⟩;have Gc:=Gb.then Fc;simp only[evs,eff,cK,jD];refine ai (o:=0) (v:=.agg (x.ent (aF Ks x) false)) (c':=x.ent (aF Ks x) false) Fc.wf (Fc.get o_hb) rfl (by show au (x.cells++[_,_])=true;rw[aL,((il.fr Gb).i x xm).H.one];rfl) rfl ?_;rintro hd od Fd nd;have nc:=Fc.next;have bD:=oe.lt G.wf;have nG:=Fa.next;have ay:Fr [] ha hd:=(F_hb.then Fc).fresh Fd Fa.wf oM;have Gd:=Ga.then ay;have br:=ay.get (Fa.get oe);have le:=br.ld1 0;have Ed:=VW (n:=E.length) (GE.fr (Fa.then ay)) (aJ aR E) oM;have bz:=Gd.get bt;have lH:=bz.ld1 1;have bm:=aH.fr (a8.then Gd);simp only[evs,seval,DF,g1,g4,g6,kk Gb,it Gb,le,Ed.len,lH,bm.len];by_cases c3:E.length<H.length;let⟨bh,oh,ae,q1,q2,_,q4'⟩:=bm.ix (f:=b8) (k:=1) (fun _=>rfl) .i64 (E.length:Int) oM oM;rw[RX]at q4';have bC:=hH ae (RZ q4');have q3:ab hd bh oh=some (ZY (ae:Int)):=q2 0 oM;by_cases c4:0<(ae:Int);simp(disch:=omega) only[evs,seval,ah,eq_true (oM:(E.length:Int)<H.length),g1,q1,q3,eq_true c4,lH,tU ae 40 40 rfl dI,ah];apply stu Fd.wf od;rintro bE bf Fe ne;simp only[evs,seval];apply stu Fe.wf bf;rintro hf bn Ff nf;simp only[evs,seval,g6];have K:=((ay.fresh Fe Fa.wf oM).fresh Ff Fa.wf oM);have a5:=K.get (Fa.get oe);have az:aj hf ha.next 0 6=some (Ent.cells ⟨x,1+((ae%40:Nat):Int),true⟩):=by rw[(bn).ld];rfl
 have u1:bu [ZX 0,ZY 0,.str [],.nils,ZZ 0,.bool false] 0 (Ent.cells ⟨x,1+((ae%40:Nat):Int),true⟩)=some (Ent.cells ⟨x,1+((ae%40:Nat):Int),true⟩):=rfl;have on:au (Ent.cells ⟨x,1+((ae%40:Nat):Int),true⟩)=true:=by show au (x.cells++[_,_])=true;rw[aL,((il.fr Gb).i x xm).H.one];rfl
 obtain⟨hx,ac⟩:∃hx,hx=halloc hf (Ent.cells ⟨x,1+((ae%40:Nat):Int),true⟩):=⟨_,rfl⟩;have Z:Fr [] hf hx:=ac▸SO K.wf _;have ax:Own hx hf.next (Ent.cells ⟨x,1+((ae%40:Nat):Int),true⟩):=ac▸Ts K.wf _;simp only[evs,seval,a5.ld1 0,az,u1,(iR:(Ent.cells ⟨x,1+((ae%40:Nat):Int),true⟩).length=6),<-ac];have ar:=GE.vb;have nH:=((Fa.then K).then Z).next;have a7:=(oe.lt G.wf);have a2:h8.next<=hx.next:=oM;refine Uw (bytes:=72) (n:=1) Z.wf (GE.fr ((Fa.then K).then Z)) (TH ax rfl) oM oM on a2 (by rw[aJ aR E];omega) ?_;intro ak hy Gy ey Fy;have tk:∀{B:Nat}{cs:List V},Own hh B cs->B<h8.next->Own hy B cs:=fun o l=>Fy.own _ _ (fun m=>by have:=ar _ m;omega) (((Fa.then K).then Z).get o);have af:ak.one=true:=by obtain⟨rfl,_⟩|⟨b,n,rfl,_⟩:=Gy<;>rfl
 simp only[evs,seval,g6];refine ai (c':=[ak]) Fy.wf (tk oe oM) (by rw[aw af];rfl) (by rw[aw af];simp only[av,aB,af];rfl) (by rw[aw af];rfl) ?_;rintro hz oz Fz nz;have FN:Fr [] h7 hz:=(TL F7.wf (G.then ((Fa.then K).then Z)) Fy (fun y hy=>by have:=ar _ hy;omega)).fresh Fz F7.wf oM;have eq:(E++[(⟨x,1+((ae%40:Nat):Int),true⟩:Ent)]).flatMap Ent.cells=E.flatMap Ent.cells++Ent.cells ⟨x,1+((ae%40:Nat):Int),true⟩:=by simp
 simp(disch:=omega) only[evs,seval,ah,g7];refine rqn ⟨X.length-(i+1),oM,FN,i+1,ak,E++[⟨x,1+((ae%40:Nat):Int),true⟩],iS,iX,iX,iX,iX,iX,iX,oM,Fz.own _ _ oO (tk oa oM),Fz.own _ _ oO (tk oc oM),oz,by rw[eq];exact Gy.keep Fz oO,?_,?_,rfl⟩;intro e' m;obtain m|m:=pi.1 m;exact a3 e' m;rw[Su.1 m];exact⟨xm,by rw[<-lk];exact okx,rex,fun z=>(by cases z),fun _=>⟨by show(1:Int)<=1+((ae%40:Nat):Int);omega,by show 1+((ae%40:Nat):Int)<=40;omega⟩⟩;rw[SF,Sr,p4];exact sub.append (Uo _);simp only[evs,seval,eq_true (oM:(E.length:Int)<H.length),g6,q1,q3,eq_false c4];have K:=ay;have a5:=K.get (Fa.get oe);have az:aj hd ha.next 0 6=some (Ent.cells ⟨x,aF Ks x,false⟩):=by rw[(od).ld];rfl
 have u1:bu [ZX 0,ZY 0,.str [],.nils,ZZ 0,.bool false] 0 (Ent.cells ⟨x,aF Ks x,false⟩)=some (Ent.cells ⟨x,aF Ks x,false⟩):=rfl;have on:au (Ent.cells ⟨x,aF Ks x,false⟩)=true:=by show au (x.cells++[_,_])=true;rw[aL,((il.fr Gb).i x xm).H.one];rfl
 obtain⟨hx,ac⟩:∃hx,hx=halloc hd (Ent.cells ⟨x,aF Ks x,false⟩):=⟨_,rfl⟩;have Z:Fr [] hd hx:=ac▸SO K.wf _;have ax:Own hx hd.next (Ent.cells ⟨x,aF Ks x,false⟩):=ac▸Ts K.wf _;simp only[evs,seval,a5.ld1 0,az,u1,(iR:(Ent.cells ⟨x,aF Ks x,false⟩).length=6),<-ac];have ar:=GE.vb;have nH:=((Fa.then K).then Z).next;have a7:=(oe.lt G.wf);have a2:h8.next<=hx.next:=oM;refine Uw (bytes:=72) (n:=1) Z.wf (GE.fr ((Fa.then K).then Z)) (TH ax rfl) oM oM on a2 (by rw[aJ aR E];omega) ?_;intro ak hy Gy ey Fy;have tk:∀{B:Nat}{cs:List V},Own hh B cs->B<h8.next->Own hy B cs:=fun o l=>Fy.own _ _ (fun m=>by have:=ar _ m;omega) (((Fa.then K).then Z).get o);have af:ak.one=true:=by obtain⟨rfl,_⟩|⟨b,n,rfl,_⟩:=Gy<;>rfl
 simp only[evs,seval,g6];refine ai (c':=[ak]) Fy.wf (tk oe oM) (by rw[aw af];rfl) (by rw[aw af];simp only[av,aB,af];rfl) (by rw[aw af];rfl) ?_;rintro hz oz Fz nz;have FN:Fr [] h7 hz:=(TL F7.wf (G.then ((Fa.then K).then Z)) Fy (fun y hy=>by have:=ar _ hy;omega)).fresh Fz F7.wf oM;have eq:(E++[(⟨x,aF Ks x,false⟩:Ent)]).flatMap Ent.cells=E.flatMap Ent.cells++Ent.cells ⟨x,aF Ks x,false⟩:=by simp
 simp(disch:=omega) only[evs,seval,ah,g7];refine rqn ⟨X.length-(i+1),oM,FN,i+1,ak,E++[⟨x,aF Ks x,false⟩],iS,iX,iX,iX,iX,iX,iX,oM,Fz.own _ _ oO (tk oa oM),Fz.own _ _ oO (tk oc oM),oz,by rw[eq];exact Gy.keep Fz oO,?_,?_,rfl⟩;intro e' m;obtain m|m:=pi.1 m;exact a3 e' m;rw[Su.1 m];exact⟨xm,by rw[<-lk];exact okx,rex,fun _=>rfl,fun z=>by cases z⟩;rw[SF,Sr,p4];exact sub.append (Uo _);simp only[evs,seval,eq_false (oM:¬(E.length:Int)<H.length),g6];have K:=ay;have a5:=K.get (Fa.get oe);have az:aj hd ha.next 0 6=some (Ent.cells ⟨x,aF Ks x,false⟩):=by rw[(od).ld];rfl
 have u1:bu [ZX 0,ZY 0,.str [],.nils,ZZ 0,.bool false] 0 (Ent.cells ⟨x,aF Ks x,false⟩)=some (Ent.cells ⟨x,aF Ks x,false⟩):=rfl;have on:au (Ent.cells ⟨x,aF Ks x,false⟩)=true:=by show au (x.cells++[_,_])=true;rw[aL,((il.fr Gb).i x xm).H.one];rfl
 obtain⟨hx,ac⟩:∃hx,hx=halloc hd (Ent.cells ⟨x,aF Ks x,false⟩):=⟨_,rfl⟩;have Z:Fr [] hd hx:=ac▸SO K.wf _;have ax:Own hx hd.next (Ent.cells ⟨x,aF Ks x,false⟩):=ac▸Ts K.wf _;simp only[evs,seval,a5.ld1 0,az,u1,(iR:(Ent.cells ⟨x,aF Ks x,false⟩).length=6),<-ac];have ar:=GE.vb;have nH:=((Fa.then K).then Z).next;have a7:=(oe.lt G.wf);have a2:h8.next<=hx.next:=oM;refine Uw (bytes:=72) (n:=1) Z.wf (GE.fr ((Fa.then K).then Z)) (TH ax rfl) oM oM on a2 (by rw[aJ aR E];omega) ?_;intro ak hy Gy ey Fy;have tk:∀{B:Nat}{cs:List V},Own hh B cs->B<h8.next->Own hy B cs:=fun o l=>Fy.own _ _ (fun m=>by have:=ar _ m;omega) (((Fa.then K).then Z).get o);have af:ak.one=true:=by obtain⟨rfl,_⟩|⟨b,n,rfl,_⟩:=Gy<;>rfl
 simp only[evs,seval,g6];refine ai (c':=[ak]) Fy.wf (tk oe oM) (by rw[aw af];rfl) (by rw[aw af];simp only[av,aB,af];rfl) (by rw[aw af];rfl) ?_;rintro hz oz Fz nz;have FN:Fr [] h7 hz:=(TL F7.wf (G.then ((Fa.then K).then Z)) Fy (fun y hy=>by have:=ar _ hy;omega)).fresh Fz F7.wf oM;have eq:(E++[(⟨x,aF Ks x,false⟩:Ent)]).flatMap Ent.cells=E.flatMap Ent.cells++Ent.cells ⟨x,aF Ks x,false⟩:=by simp
 simp(disch:=omega) only[evs,seval,ah,g7];refine rqn ⟨X.length-(i+1),oM,FN,i+1,ak,E++[⟨x,aF Ks x,false⟩],iS,iX,iX,iX,iX,iX,iX,oM,Fz.own _ _ oO (tk oa oM),Fz.own _ _ oO (tk oc oM),oz,by rw[eq];exact Gy.keep Fz oO,?_,?_,rfl⟩;intro e' m;obtain m|m:=pi.1 m;exact a3 e' m;rw[Su.1 m];exact⟨xm,by rw[<-lk];exact okx,rex,fun _=>rfl,fun z=>by cases z⟩;rw[SF,Sr,p4];exact sub.append (Uo _);have kl:aj hh h4.next 0 2=some [vK,ZZ 12]:=by rw[(G.get a0).ld];rfl
 have le:aj hh h7.next 0 1=some [vE]:=by rw[oe.ld];rfl
 have bA:vE.one=true:=by obtain⟨rfl,_⟩|⟨b,n,rfl,_⟩:=GE<;>rfl
 have a6:Fr [] h4 hh:=an.then (F7.then G);have nG:=G.next;simp only[evs,seval,eff,g7,g2,g4,g5,g6,len,(oM:¬(i:Int)<X.length),kl,le];refine ai (o:=0) (v:=.agg [vK,ZZ 12]) (c':=[vK,ZZ 12]) G.wf oa rfl (by show au [_,_]=true;simp only[av,aB,v1];rfl) rfl ?_;rintro ha xa Fa na;have bw:aj ha h4.next 0 2=some [vK,ZZ 12]:=by rw[(Fa.own _ _ oO (G.get a0)).ld];rfl
 have bv:=Fa.own _ _ oO oe;have bo:aj ha h7.next 0 1=some [vE]:=by rw[bv.ld];rfl
 simp only[evs,seval,eff,g3];refine ai (o:=0) (v:=.agg [vE]) (c':=[vE]) Fa.wf (Fa.own _ _ oO oc) rfl (by show au [_]=true;simp only[av,aB,bA];rfl) rfl ?_;rintro hz xz Fz nz;have r1:aj hz h1.next 0 2=some [vK,ZZ 12]:=by rw[(Fz.own _ _ oO xa).ld];rfl
 have r2:aj hz h2.next 0 1=some [vE]:=by rw[xz.ld];rfl
 simp only[evs,seval,DF,g2,g3,g4,g6,kl,le,bo,r1,r2];have bk:Fr [h1.next] h4 ha:=Sj a6 Fa F4.wf iS (fun x m=>.inl m);have bc:Fr [h1.next,h2.next] h4 hz:=Sj bk Fz F4.wf iS (fun x m=>.inl (by simp at m|-;exact .inr m));let⟨rz,kz⟩:=bj _ hz oO bc;have FN:Fr [] h hz:=((a8.then G).fresh Fa w oM).fresh Fz w oM;have bB:=((il.fr G).keep Fa oO).keep Fz oO;have Gz:=((GE.keep Fa oO).keep Fz oO).le (C:=h.next) oM;refine⟨FN,vK,Ks,vX,X,vE,E,rfl,rz,kz,gk,bp,lk,bB.le oM,Gz,a3,?_,oM⟩;have:=(sub.trans (UF _ _)).map Itm.key;rw[Te]at this;exact this.nodup il.n
def IxOf(m:Nat->Option Nat)(E:List Ent):Prop:=∀k j,m k=some j↔∃e,E[j]? =some e/\e.x.key=k
def okZ(E:List Ent):Prop:=∀e∈E,1<=e.b/\e.b<=2305843009213693952
theorem okZ.sum_nn:∀{E:List Ent},okZ E→0≤(E.map Ent.b).sum
 |[],_=>by simp
 |e::E,h=>by have h1:=h e iS;have h2:=okZ.sum_nn (E:=E) fun x m=>h x iX;simp only[List.map_cons,List.sum_cons];omega
theorem okZ.take{E:List Ent}(h:okZ E)(i:Nat):okZ (E.take i):=fun e m=>h e (Tw m)
theorem okZ.drop{E:List Ent}(h:okZ E)(i:Nat):okZ (E.drop i):=fun e m=>h e (Tc m)
theorem okZ.split{E:List Ent}(i:Nat):(E.map Ent.b).sum=((E.take i).map Ent.b).sum+((E.drop i).map Ent.b).sum:=by rw[<-Vn,<-SF,SB]
theorem DV{E:List Ent}{i:Nat}{e:Ent}(h:E[i]? =some e):((E.take (i+1)).map Ent.b).sum=((E.take i).map Ent.b).sum+e.b:=by rw[Sr,h];simp
theorem uj:∀(d:List V)(o:Nat),bu d o []=some d
 |[],o=>iQ o
 |x::l,0=>dF x l
 |x::l,o+1=>by rw[bI,uj l o];rfl
theorem kX(d:List V):∀(c:List V)(o:Nat)(vs c':List V),bu c o vs=some c'->bu (c++d) o vs=some (c'++d)
 |[],o,[],c',e=>by rw[iQ]at e;cases e;exact uj d o
 |[],o,v::vs,c',e=>by rw[mb]at e;cases e
 |x::l,0,[],c',e=>by rw[dF]at e;cases e;rfl
 |x::l,0,v::vs,c',e=>by
  rw[aV]at e;cases q:bu l 0 vs with
  |none=>rw[q]at e;cases e
  |some r=>rw[q]at e;cases e;rw[TS,aV,kX d l 0 vs r q];rfl
 |x::l,o+1,vs,c',e=>by
  rw[bI]at e;cases q:bu l o vs with
  |none=>rw[q]at e;cases e
  |some r=>rw[q]at e;cases e;rw[TS,bI,kX d l o vs r q];rfl
theorem mE(d:List V)(o:Nat)(vs d':List V)(e:bu d o vs=some d'):∀(c:List V),bu (c++d) (c.length+o) vs=some (c++d')
 |[]=>by simpa using e
 |x::l=>by rw[TS,SG,(oM:l.length+1+o=(l.length+o)+1),bI,mE d o vs d' e l];rfl
theorem vj{α:Type}{f:α->List V}{k:Nat}(hf:∀x,(f x).length=k){y:α}{o:Nat}{vs:List V}:∀(L:List α)(i:Nat)(x:α),L[i]? =some x->bu (f x) o vs=some (f y)->bu (L.flatMap f) (i*k+o) vs=some ((L.set i y).flatMap f)
 |z::L,0,x,h,e=>by simp at h;subst h;rw[SL,VK,Tj,UQ,SL];exact kX _ _ _ _ _ e
 |z::L,i+1,x,h,e=>by rw[SL,List.set_cons_succ,SL,show(i+1) *k+o=(f z).length+(i*k+o) by rw[hf,Uz];omega];exact mE _ _ _ _ (vj hf L i x (eV h) e) _
theorem _root_.Go.Ev.Gs.ptr{h:Heap}{B e:Nat}{v:V}{n:Nat}(g:Gs h B e v cs)(hn:cs.length=n*e)(Z:0<e){i:Nat}(hi:i<n):∃b,vb v=[b]/\B<=b/\Own h b cs/\(∀k,aP (.ixs e) [v,.int k (i:Int)]=some (.ptr b (i*e)))/\∀h' c',Own h' b c'->c'.length=cs.length->Gs h' B e v c':=by obtain⟨rfl,rfl⟩|⟨b,m,rfl,h1,h2,K,o⟩:=g;have h0:0=n*e:=hn;have:=VT (oM:0<n) Z;omega;have:m=n:=Nat.eq_of_mul_eq_mul_right Z oM;subst this;refine⟨b,rfl,K,o,fun k=>?_,fun h' c' o' hl=>.inr ⟨b,m,rfl,oM,h2,K,o'⟩⟩;rw[nr _ _ _ _ _ _ _ oM oM];simp
theorem iC{h:Heap}{e:Ent}(a:ItmH h e.x):au e.cells=true:=by show au (e.x.cells++[_,_])=true;rw[aL,a.one];rfl
theorem IxOf.same{m:Nat->Option Nat}{E E':List Ent}(ix:IxOf m E)(e:E'.map Ent.x=E.map Ent.x):IxOf m E':=by intro k j;rw[ix k j];have:=congrArg (fun l=>l[j]?) e;simp only[SY]at this;constructor;grind;grind
def Itm.val(x:Itm):Nat×Nat×Str×List Str:=(x.key,x.type,x.text,x.marks)
def Ent.val(e:Ent):(Nat×Nat×Str×List Str)×Int×Bool:=(e.x.val,e.b,e.kn)
theorem Kl{h:Heap}{vb:V}{L:List Str}(a:ARecs sS 1 h va L)(b:ARecs sS 1 h vb L)(hn:L.length<=4096):ao go 191 [va,vb] h fun u h'=>u=.bool true/\h=h':=by refine ag ?_;simp only[evs,seval,a.len,b.len];refine aC (fun n env hh=>h=hh/\∃i:Nat,env.get 13=some (ZZ i)/\env.get 12=some (ZZ L.length)/\env.get 0=some va/\env.get 1=some vb/\i<=L.length/\n=L.length-i) L.length oM ?_ ?_;exact⟨rfl,0,iS,iS,iS,iS,oM,rfl⟩;rintro n env hh ⟨rfl,i,K,Z,g0,g1,hi,rfl⟩;by_cases c:i<L.length;let⟨b1,o1,s1,p1,p2,_,p4⟩:=a.ix fG .i64 (i:Int) oM oM;let⟨b2,o2,s2,q1,q2,_,q4⟩:=b.ix fG .i64 (i:Int) oM oM;rw[p4]at q4;cases q4;have x1:ab h b1 o1=some (.str s1):=p2 0 oM;have x2:ab h b2 o2=some (.str s1):=q2 0 oM;simp(disch:=omega) only[evs,seval,DF,eff,ah,K,Z,g0,g1,(oM:(i:Int)<L.length),p1,q1,x1,x2,aY,beq_self_eq_true];refine rqn ⟨L.length-(i+1),oM,rfl,i+1,iS,iX,iX,iX,oM,rfl⟩;simp only[evs,seval,K,Z,(oM:¬(i:Int)<L.length)]
theorem Itm.val_eq{x y:Itm}(e:x.val=y.val):x.key=y.key/\x.type=y.type/\x.text=y.text/\x.marks=y.marks:=by simp only[Itm.val,SJ]at e;exact e
theorem D9{h:Heap}{x y:Itm}(w:WF h)(a:ItmH h x)(b:ItmH h y)(e:x.val=y.val):ao go 120 [.agg x.cells,.agg y.cells] h fun u h'=>u=.bool true/\Fr [] h h':=by
 let⟨e1,e2,e3,e4⟩:=Itm.val_eq e;let⟨h1,e_h1,F_h1,o_h1⟩:=aq w x.cells;let⟨Z,e_h2,F_h2,o_h2⟩:=aq F_h1.wf y.cells;have F:=F_h1.then F_h2;have o1:=F_h2.get o_h1;have x0:ab Z h.next 0=some (ZX (x.key:Int)):=o1.ld1 0;have x1:ab Z h.next 1=some (ZY (x.type:Int)):=o1.ld1 1;have x2:ab Z h.next 2=some (.str x.text):=o1.ld1 2;have x3:ab Z h.next 3=some x.vm:=o1.ld1 3;have K:ab Z h1.next 0=some (ZX (x.key:Int)):=by rw[e1];exact o_h2.ld1 0
 have y1:ab Z h1.next 1=some (ZY (x.type:Int)):=by rw[e2];exact o_h2.ld1 1
 have y2:ab Z h1.next 2=some (.str x.text):=by rw[e3];exact o_h2.ld1 2
 have y3:ab Z h1.next 3=some y.vm:=o_h2.ld1 3;refine ag ?_;simp only[evs,seval,<-e_h1,<-e_h2,x0,x1,x2,x3,K,y1,y2,y3,aN,beq_self_eq_true];refine aa (Kl (a.m.fr F) (by rw[e4];exact b.m.fr F) a.n) ?_;rintro _ _ ⟨rfl,rfl⟩;simp only[evs,seval];exact F
theorem Ea{h:Heap}{x y:Ent}(w:WF h)(a:ItmH h x.x)(b:ItmH h y.x)(e:x.val=y.val):ao go 119 [.agg x.cells,.agg y.cells] h fun u h'=>u=.bool true/\Fr [] h h':=by
 simp only[Ent.val,SJ]at e;let⟨e1,e2,e3⟩:=e;let⟨h1,e_h1,F_h1,o_h1⟩:=aq w x.cells;let⟨Z,e_h2,F_h2,o_h2⟩:=aq F_h1.wf y.cells;have F:=F_h1.then F_h2;have o1:=F_h2.get o_h1;have x4:ab Z h.next 4=some (ZZ x.b):=o1.ld1 4;have x5:ab Z h.next 5=some (.bool x.kn):=o1.ld1 5;have K:ab Z h1.next 4=some (ZZ x.b):=by rw[e2];exact o_h2.ld1 4
 have y5:ab Z h1.next 5=some (.bool x.kn):=by rw[e3];exact o_h2.ld1 5
 have lx:aj Z h.next 0 4=some x.x.cells:=by rw[o1.ld];rfl
 have ly:aj Z h1.next 0 4=some y.x.cells:=by rw[o_h2.ld];rfl
 refine ag ?_;simp only[evs,seval,<-e_h1,<-e_h2,x4,x5,K,y5,lx,ly];refine aa (D9 F_h2.wf (a.fr F) (b.fr F) e1) ?_;rintro _ h3 ⟨rfl,F3⟩;simp only[evs,seval];exact F.then F3
theorem Ko{h:Heap}{vb:V}{Z E:List Ent}(w:WF h)(a:Recs Ent.cells 6 h va Z)(b:Recs Ent.cells 6 h vb E)(za:∀z∈Z,ItmH h z.x)(ea:∀e∈E,ItmH h e.x)(eq:Z.map Ent.val=E.map Ent.val)(hn:E.length<=4096):
 ao go 118 [va,vb,.func (.func 119) [] []] h fun u h'=>u=.bool true/\Fr [] h h':=by
 have ln:Z.length=E.length:=by have:=congrArg List.length eq;simpa using this
 have la:=a.len;rw[ln]at la;refine ag ?_;simp only[evs,seval,la,b.len];refine aC (fun n env hh=>Fr [] h hh/\∃i:Nat,env.get 17=some (ZZ i)/\env.get 16=some (ZZ E.length)/\env.get 15=some va/\env.get 1=some vb/\env.get 2=some (.func (.func 119) [] [])/\i<=E.length/\n=E.length-i) E.length oM ?_ ?_;exact⟨Sn w,0,iS,iS,iS,iS,iS,oM,rfl⟩;rintro n env hh ⟨F,i,af,ak,an,g1,g2,hi,rfl⟩;by_cases c:i<E.length;let⟨b1,o1,z,p1,_,p3,p4⟩:=(a.fr F).ix aR .i64 (i:Int) oM oM;rw[RX]at p4;have zm:=RZ p4;have az:=(za z zm).fr F;let⟨h3,e_h3,F_h3,o_h3⟩:=aq F.wf [ZX 0,ZY 0,.str [],.nils,ZZ 0,.bool false];simp only[evs,seval,af,ak,an,(oM:(i:Int)<E.length),p1,p3,<-e_h3];refine ai (c':=z.cells) F_h3.wf o_h3 rfl (iC az) rfl ?_;rintro h4 o4 F4 n4;have ac:Fr [] hh h4:=F_h3.fresh F4 F.wf (RW _);let⟨b2,o2,e,q1,_,q3,q4⟩:=(b.fr (F.then ac)).ix aR .i64 (i:Int) oM oM;rw[RX]at q4;have em:=RZ q4;have ae:=(ea e em).fr (F.then ac);let⟨h5,e_h5,F_h5,o_h5⟩:=aq F4.wf [ZX 0,ZY 0,.str [],.nils,ZZ 0,.bool false];simp only[evs,seval,g1,q1,q3,<-e_h5];refine ai (c':=e.cells) F_h5.wf o_h5 rfl (iC ae) rfl ?_;rintro h6 o6 F6 n6;have K:Fr [] h4 h6:=F_h5.fresh F6 F4.wf (RW _);have lz:aj h6 hh.next 0 6=some z.cells:=by rw[(K.get o4).ld];rfl
 have le:aj h6 h4.next 0 6=some e.cells:=by rw[o6.ld];rfl
 have ev:z.val=e.val:=by have:=congrArg (fun l=>l[i]?) eq;simp only[SY,p4,q4,Sx]at this;exact TW this
 have ar:119<1099511627776:=oM;simp only[evs,seval,g2,lz,le,ar];refine aa (Ea F6.wf (az.fr (ac.then K)) (ae.fr K) ev) ?_;rintro _ h7 ⟨rfl,F7⟩;simp(disch:=omega) only[evs,seval,ah,af];refine rqn ⟨E.length-(i+1),oM,F.then (ac.then (K.then F7)),i+1,iS,iX,iX,iX,iX,oM,rfl⟩;simp only[evs,seval,af,ak,(oM:¬(i:Int)<E.length)];exact F
theorem D8{h:Heap}{vb:V}{Z E:List Ent}(w:WF h)(a:Recs Ent.cells 6 h va Z)(b:Recs Ent.cells 6 h vb E)(za:∀z∈Z,ItmH h z.x)(ea:∀e∈E,ItmH h e.x)(eq:Z.map Ent.val=E.map Ent.val)(hn:E.length<=4096):
 ao go 61 [.agg [va],.agg [vb]] h fun u h'=>u=.bool true/\Fr [] h h':=by
 have v1:va.one=true:=TI a;have v2:vb.one=true:=TI b;let⟨h1,e_h1,F_h1,o_h1⟩:=aq w [va];let⟨K,e_h2,F_h2,o_h2⟩:=aq F_h1.wf [vb];have F:=F_h1.then F_h2;have x0:ab K h.next 0=some va:=(F_h2.get o_h1).ld1 0;have y0:ab K h1.next 0=some vb:=o_h2.ld1 0;refine ag ?_;simp only[evs,seval,<-e_h1,<-e_h2,x0,y0];refine aa (Ko F_h2.wf (a.fr F) (b.fr F) (fun z m=>(za z m).fr F) (fun z m=>(ea z m).fr F) eq hn) ?_;rintro _ h3 ⟨rfl,F3⟩;simp only[evs,seval];exact F.then F3
def E0:List V:=[ZX 0,ZY 0,.str [],.nils,ZZ 0,.bool false]
theorem sM{Z:List Ent}{z:Ent}{n i:Nat}(K:Z.length=i)(hi:i<n):bu (Z.flatMap Ent.cells++aU E0 (n-i)) (i*6) z.cells=some ((Z++[z]).flatMap Ent.cells++aU E0 (n-(i+1))):=by
 have l:(Z.flatMap Ent.cells).length=i*6:=by rw[aJ aR,K]
 rw[(oM:n-i=n-(i+1)+1),eW,<-l,<-Um (Z.flatMap Ent.cells).length,mE (E0++aU E0 (n-(i+1))) 0 z.cells (z.cells++aU E0 (n-(i+1))) (kX _ _ _ _ _ rfl),Tz];simp
theorem LoP.kl{h:Heap}{b:Nat}{l:List Int}{ks bs:List Bool}(a:LoP h b pm l ks bs):ks.length=l.length/\Fit l:=by let⟨p,vk,o,v1,ix,mk,e⟩:=a;exact⟨ix.len.1,ix.fit⟩
theorem vg{α:Type}{l:List α}{i:Nat}(d:α)(h:i<l.length):l.take (i+1)=l.take i++[l.getD i d]:=by rw[Sr,Tf,Sm h];rfl
def LsO(N:Nat)(h:Heap)(v:V)(Z:List Ent):Prop:=(Z=[]/\v=.nils)\/∃b,v=.slice b 0 Z.length Z.length/\N<=b/\Own h b (Z.flatMap Ent.cells)/\∀z∈Z,CpO (b+1) h z.x.vm z.x.marks
theorem CpO.le{N M:Nat}{h:Heap}{v:V}{L:List (List UInt8)}(a:CpO N h v L)(l:M<=N):CpO M h v L:=by obtain⟨e,rfl|⟨b,rfl,Z,o⟩⟩|⟨b,e,Z,o⟩:=a;exact .inl ⟨e,.inl rfl⟩;exact .inl ⟨e,.inr ⟨b,rfl,oM,o⟩⟩;exact .inr ⟨b,e,oM,o⟩
theorem LsO.rs{N:Nat}{h:Heap}{v:V}{Z:List Ent}(a:LsO N h v Z):Recs Ent.cells 6 h v Z:=by obtain⟨rfl,rfl⟩|⟨b,rfl,_,o,_⟩:=a;exact VL;exact TH o (aJ aR Z)
theorem CH{h:Heap}{b B S:Nat}{X:List Itm}{l:List Int}{mc:cC}(w:WF h)(s:Sto n0 h b Ks cap X l kn st vK bg B bm S bl pm mc)(nz:∀x∈X,nZ x.vm=true)(hx:X.length<=1024):
 ao go 30 [.ptr b 0] h fun u h'=>Fr [] h h'/\∃v Z,u=.agg [v]/\LsO h.next h' v Z/\Z.map (fun z=>z.x.val)=X.map Itm.val/\Z.map Ent.b=l/\Z.map Ent.kn=kn/\∀z∈Z,ItmH h' z.x:=by
 have kl:=s.lo.kl.1;have ll:=s.len;let⟨h1,e_h1,F_h1,o_h1⟩:=aq w [.nils];let⟨h2,e_h2,F_h2,o_h2⟩:=aq F_h1.wf [.nils];have n1:=hnx e_h1;have n2:=hnx e_h2;refine ag ?_;simp only[evs,seval,<-e_h1,<-e_h2];refine ai (o:=0) (v:=.agg [.nils]) (c':=[.nils]) F_h2.wf o_h2 rfl rfl rfl ?_;rintro K o3 F3 n3;have ar:Fr [] h K:=(F_h1.then F_h2).fresh F3 w oM;have a2:=F3.own _ _ oO (F_h2.get o_h1);have s3:=s.fr w ar;simp only[evs,seval];apply aa (jx s3);rintro _ _ ⟨rfl,rfl⟩;by_cases c0:X.length=0;have l3:aj K h1.next 0 1=some [.nils]:=by rw[o3.ld];rfl
 simp only[evs,seval,eq_true (oM:((X.length:Nat):Int)=0),l3];apply ai (o:=0) (v:=.agg [.nils]) (c':=[.nils]) F3.wf a2 rfl rfl rfl;rintro h4 o4 F4 n4;have l4:aj h4 h.next 0 1=some [.nils]:=by rw[o4.ld];rfl
 simp only[evs,seval,l4];have e1:X=[]:=SC.1 c0;have e2:l=[]:=SC.1 oM;have e3:kn=[]:=SC.1 oM;subst e1 e2 e3;exact⟨ar.fresh F4 w oM,.nils,[],rfl,.inl ⟨rfl,rfl⟩,rfl,rfl,rfl,iS⟩;simp only[evs,seval,eq_false (oM:¬((X.length:Nat):Int)=0)];apply aa (jx s3);rintro _ _ ⟨rfl,rfl⟩;simp only[evs];refine(de _ _ _ _ _ _ _ _ oM oM oM oM).2 ?_;simp only[RX];obtain⟨h4,ac⟩:∃h4,h4=halloc K (aU [ZX 0,ZY 0,.str [],.nils,ZZ 0,.bool false] X.length):=⟨_,rfl⟩;have ae:Fr [] K h4:=ac▸SO F3.wf _;have o4:Own h4 K.next (aU E0 X.length):=ac▸Ts F3.wf _;have n4:=hnx ac;rw[<-ac];clear ac;simp only[evs,seval];apply ai (o:=0) (c':=[.slice K.next 0 X.length X.length]) ae.wf (ae.get o3) rfl rfl rfl;rintro h5 o5 F5 n5;have a0:Fr [] h h5:=(ar.then ae).fresh F5 w oM;have s5:=s.fr w a0;have b2:ab h5 b 2=some (.ptr bg 0):=s5.ob.ld1 2;have bn:=s.ob.lt w;have a8:=F5.own _ _ oO o4;simp only[evs,seval,b2];apply aa (yQ F5.wf s5.g);rintro vG h6 ⟨b',bj,tb,F6⟩;have n6:=F6.next;simp only[evs,seval,tb.len];refine aC (fun n env hh=>Fr [K.next] h6 hh/\∃(i:Nat)(Z:List Ent),env.get 25=some (ZZ i)/\env.get 24=some (ZZ X.length)/\env.get 23=some vG/\env.get 3=some (.ptr h1.next 0)/\env.get 2=some (.ptr h.next 0)/\env.get 0=some (.ptr b 0)/\i<=X.length/\Z.length=i/\
  Own hh K.next (Z.flatMap Ent.cells++aU E0 (X.length-i))/\Z.map (fun z=>z.x.val)=(X.take i).map Itm.val/\Z.map Ent.b=l.take i/\Z.map Ent.kn=kn.take i/\(∀z∈Z,CpO h6.next hh z.x.vm z.x.marks/\∀H,CpO h6.next H z.x.vm z.x.marks->ItmH H z.x)/\n=X.length-i) X.length oM ?_ ?_
 exact⟨Sn F6.wf,0,[],iS,iS,iS,iS,iS,iS,oM,rfl,F6.get a8,rfl,rfl,rfl,iS,rfl⟩;rintro n env hh ⟨F,i,Z,an,aH,a7,g3,g2,g0,hi,zl,oo,zv,zb,zk,zi,rfl⟩;have nF:=F.next;have az:Fr [] h hh:=TL w (a0.then F6) F oO;have sh:=s.fr w az;have ay:Own hh h1.next [.slice K.next 0 X.length X.length]:=F.own _ _ oO (F6.get o5);have a9:Own hh h.next [.nils]:=F.own _ _ oO (F6.get (F5.own _ _ oO (ae.get a2)));have rs:Recs Itm.cells 4 hh vG X:=(tb.fr F oO).sl;by_cases c:i<X.length;have hc:(0:Int)<=(i:Int)/\(i:Int)<((l.length:Nat):Int):=oM;let⟨bi,oi,x,p1,_,p3,p4⟩:=rs.ix aZ .i64 (i:Int) oM oM;rw[RX]at p4;have xm:=RZ p4;have ax:=(sh.rd [] hh iS (Sn F.wf)).2.2 x xm;let⟨ha,e_ha,F_ha,o_ha⟩:=aq F.wf [ZX 0,ZY 0,.str [],.nils];simp only[evs,seval,an,aH,a7,(oM:(i:Int)<X.length),p1,p3,<-e_ha];refine ai (c':=x.cells) F_ha.wf o_ha rfl ax.one rfl ?_;rintro hb ob Fb nb;have a1:Fr [] hh hb:=F_ha.fresh Fb F.wf (RW _);have sb:=sh.fr F.wf a1;have b4:ab hb b 4=some (.ptr bl 0):=sb.ob.ld1 4;simp only[evs,seval,g0,b4];apply aa (zV Fb.wf sb.lo.lo);rintro _ a5 ⟨rfl,Fc⟩;rw[if_pos hc,RX];have sc:=sb.fr Fb.wf Fc;have ba:ab a5 b 4=some (.ptr bl 0):=sc.ob.ld1 4;simp only[evs,seval,g0,ba];apply aa (DM Fc.wf sc.lo.lo);rintro _ hd ⟨rfl,Fd⟩;rw[if_pos hc,RX];have ak:Fr [] hh hd:=a1.then (Fc.then Fd);have x4:aj hd hh.next 0 4=some x.cells:=by rw[((Fc.then Fd).get ob).ld];rfl
 have d3:ab hd h1.next 0=some (.slice K.next 0 X.length X.length):=(ak.get ay).ld1 0;simp only[evs,seval,eff,g3,x4,d3];apply aa (sV Fd.wf (ax.fr ak) (nz x xm));rintro _ he ⟨vy,rfl,Fe,a3⟩;have v1:=a3.one;have af:=ak.then Fe;have e3:ab he h1.next 0=some (.slice K.next 0 X.length X.length):=(af.get ay).ld1 0;have px:aP (.ixs 6) [.slice K.next 0 X.length X.length,ZZ (i:Int)]=some (.ptr K.next (i*6)):=by rw[gw _ _ _ _ _ _ _ oM oM];simp
 have oe:=af.get oo;have on:au (Ent.cells ⟨x.own vy,l.getD i 0,kn.getD i false⟩)=true:=by show au [ZX (x.key:Int),ZY (x.type:Int),.str x.text,vy,ZZ _,.bool _]=true;simp only[av,aB,v1];rfl
 simp only[evs,seval,eff,px,eY];apply ai (v:=.agg (Ent.cells ⟨x.own vy,l.getD i 0,kn.getD i false⟩)) Fe.wf oe rfl on (sM zl c);rintro hf a4 Ff nf;have FN:Fr [K.next] h6 hf:=Sj (Sj (T:=[K.next]) F af F6.wf (fun x m=>.inl m) iS) Ff F6.wf (fun x m=>.inl m) (fun x m=>.inl m);have bf:=af.next;have bh:=ak.next;have a6:∀z∈Z++[(⟨x.own vy,l.getD i 0,kn.getD i false⟩:Ent)],CpO h6.next hf z.x.vm z.x.marks/\∀H,CpO h6.next H z.x.vm z.x.marks->ItmH H z.x:=by intro z m;obtain m|m:=pi.1 m;let⟨c1,c2⟩:=zi z m;exact⟨(c1.fr af iS).fr Ff oO,c2⟩;rw[Su.1 m];exact⟨(a3.le oM).fr Ff oO,fun H c=>⟨ax.k,ax.t,Sl.a c.rs,ax.n,ax.l⟩⟩
 simp(disch:=omega) only[evs,seval,DF,ah,an,x4,d3,e3];refine rqn ⟨X.length-(i+1),oM,FN,i+1,Z++[⟨x.own vy,l.getD i 0,kn.getD i false⟩],iS,iX,iX,iX,iX,iX,oM,by simp[zl],a4,?_,?_,?_,a6,rfl⟩;rw[Sr,p4,SF,SF,zv];rfl;rw[vg 0 oM,SF,zb];rfl;rw[vg false oM,SF,zk];rfl;have e:i=X.length:=oM;subst e;rw[Sf oM]at zv zb zk;have z0:aU E0 (X.length-X.length)=[]:=by rw[TN];rfl
 rw[z0,Tq]at oo;have l3:aj hh h1.next 0 1=some [.slice K.next 0 X.length X.length]:=by rw[ay.ld];rfl
 simp only[evs,seval,an,aH,g3,g2,(oM:¬(X.length:Int)<X.length),l3];apply ai (o:=0) (v:=.agg [.slice K.next 0 X.length X.length]) (c':=[.slice K.next 0 X.length X.length]) F.wf a9 rfl rfl rfl;rintro hz oz Fz nz;have lz:aj hz h.next 0 1=some [.slice K.next 0 X.length X.length]:=by rw[oz.ld];rfl
 simp only[evs,seval,lz,g2];have bc:=Fz.own _ _ oO oo;have cz:∀z∈Z,CpO h6.next hz z.x.vm z.x.marks:=fun z m=>(zi z m).1.fr Fz oO;refine⟨az.fresh Fz w oM,_,Z,rfl,.inr ⟨K.next,by rw[zl],oM,bc,fun z m=>(cz z m).le oM⟩,zv,zb,zk,fun z m=>(zi z m).2 hz (cz z m)⟩
theorem Ee{h:Heap}{b B S:Nat}{X:List Itm}{l:List Int}{mc:cC}(w:WF h)(s:Sto n0 h b Ks cap X l kn st vK bg B bm S bl pm mc)(nz:∀x∈X,nZ x.vm=true)(K:X.length<=1024):
 ao go 30 [.ptr b 0] h fun u h'=>Fr [] h h'/\∃v Z,u=.agg [v]/\Recs Ent.cells 6 h' v Z/\Z.map (fun z=>z.x.val)=X.map Itm.val/\Z.map Ent.b=l/\Z.map Ent.kn=kn/\∀z∈Z,ItmH h' z.x:=by
 apply Uu (CH w s nz K);rintro _ h' ⟨f,v,Z,e,a,r⟩;exact⟨f,v,Z,e,a.rs,r⟩
def SE(N:Nat)(Ks:List Knd)(h:Heap)(b:Nat)(E:List Ent):Prop:=
 ∃n0 K X st vK bg B bm S bl pm mc,Sto n0 h b K 12 X (E.map Ent.b) (E.map Ent.kn) st vK bg B bm S bl pm mc/\bU Ks K/\X.map Itm.val=E.map (fun e=>e.x.val)/\(∀x∈X,nZ x.vm=true)/\IxOf mc.1 E/\mc.2<=1024/\(∀y∈Wr b bg B bm S bl pm,N<=y)/\N<=n0.1
theorem SE.fr{N:Nat}{h:Heap}{b:Nat}{E:List Ent}(w:WF h)(s:SE N Ks h b E)(f:Fr [] h h'):SE N Ks h' b E:=by let⟨n0,K,X,st,vK,bg,B,bm,S,bl,pm,mc,s,r⟩:=s;exact⟨n0,K,X,st,vK,bg,B,bm,S,bl,pm,mc,s.fr w f,r⟩
def SA(Ks:List Knd)(h:Heap)(b:Nat)(E:List Ent):Prop:=
 ∃n0 K X st vK bg B bm S bl pm mc,Sto n0 h b K 12 X (E.map Ent.b) (E.map Ent.kn) st vK bg B bm S bl pm mc/\bU Ks K/\X.map Itm.val=E.map (fun e=>e.x.val)/\(∀x∈X,nZ x.vm=true)/\IxOf mc.1 E
theorem SE.a{N:Nat}{h:Heap}{b:Nat}{E:List Ent}(s:SE N Ks h b E):SA Ks h b E:=by let⟨n0,K,X,st,vK,bg,B,bm,S,bl,pm,mc,s,r1,r2,r3,r4,_⟩:=s;exact⟨n0,K,X,st,vK,bg,B,bm,S,bl,pm,mc,s,r1,r2,r3,r4⟩
theorem rH{h:Heap}{b:Nat}{E:List Ent}(w:WF h)(s:SA Ks h b E)(re:Recs Ent.cells 6 h vE E)(ie:∀e∈E,ItmH h e.x)(hE:E.length<=1024):
 ao go 19 [.ptr b 0,.agg [vE]] h fun u h'=>u=ZZ 1/\Fr [] h h':=by
 let⟨n0,K,X,st,vK,bg,B,bm,S,bl,pm,mc,s,sk,ev,nz,ix⟩:=s;have lx:X.length=E.length:=by have:=congrArg List.length ev;simpa using this
 have fit:=s.lo.kl.2;have v1:vE.one=true:=TI re;let⟨h1,e_h1,F_h1,o_h1⟩:=aq w [vE];have s1:=s.fr w F_h1;have x0:∀{h'},Fr [] h1 h'->ab h' h.next 0=some vE:=fun f=>(f.get o_h1).ld1 0;have x1:∀{h'},Fr [] h1 h'->aj h' h.next 0 1=some [vE]:=fun f=>by rw[(f.get o_h1).ld];rfl
 have y0:=x0 (Sn F_h1.wf);have y1:=x1 (Sn F_h1.wf);refine ag ?_;simp only[evs,seval,eff,<-e_h1];refine aa (jx s1) ?_;rintro _ _ ⟨rfl,rfl⟩;simp only[evs,seval,eff,re.len,y0,lx];apply aa (Ee F_h1.wf s1 nz oM);rintro _ h2 ⟨F2,vz,Z,rfl,rz,zv,zb,zk,iz⟩;have ax:=x0 F2;have ak:=x1 F2;have eq:Z.map Ent.val=E.map Ent.val:=by
  have l1:Z.length=E.length:=by have:=congrArg List.length zb;simpa using this
  refine Vx fun i=>?_;rw[SY,SY];rw[ev]at zv;have a1:=congrArg (fun l=>l[i]?) zv;have a2:=congrArg (fun l=>l[i]?) zb;have a3:=congrArg (fun l=>l[i]?) zk;simp only[SY]at a1 a2 a3;cases q:Z[i]? with
  |none=>rw[TU (by have:=Vb.1 q;omega)]
  |some z=>have il:=(Ss.1 q).1;have q2:E[i]? =some E[i]:=Sm oM;rw[q,q2]at a1 a2 a3;rw[q2];simp only[Sx,Sh]at a1 a2 a3|-;simp only[Ent.val,a1,a2,a3]
 simp only[evs,seval,eff,ak];apply aa (D8 F2.wf rz (re.fr (F_h1.then F2)) iz (fun e m=>(ie e m).fr (F_h1.then F2)) eq oM);rintro _ h3 ⟨rfl,F3⟩;have an:=F2.then F3;simp only[evs,seval,DF,eff,y0,y1,ak];refine aC (fun n env hh=>Fr [] h1 hh/\∃i:Nat,env.get 6=some (ZZ i)/\env.get 5=some (ZZ ((E.map Ent.b).take i).sum)/\env.get 0=some (.ptr b 0)/\env.get 3=some (.ptr h.next 0)/\i<=E.length/\n=E.length-i) E.length oM ?_ ?_;exact⟨an,0,iS,iS,iS,iS,oM,rfl⟩;rintro n env hh ⟨F,i,g6,g5,g0,g3,hi,rfl⟩;have z0:=x0 F;have s5:=s1.fr F_h1.wf F;have F0:=F_h1.then F;by_cases c:i<E.length;let⟨bi,oi,e,p1,p2,_,p4⟩:=(re.fr F0).ix aR .i64 (i:Int) oM oM;rw[RX]at p4;have q0:ab hh bi oi=some (ZX (e.x.key:Int)):=p2 0 oM;have kb:=(ie e (RZ p4)).k;simp only[evs,seval,g6,g0,g3,z0,re.len,(oM:(i:Int)<E.length),p1,q0];apply aa (Eg F.wf s5 kb);rintro _ h4 ⟨rfl,F4⟩;rw[(ix _ i).2 ⟨e,p4,rfl⟩];have ac:=x0 (F.then F4);let⟨bj,oj,e',p1',p2',_,ae⟩:=(re.fr (F0.then F4)).ix aR .i64 (i:Int) oM oM;rw[RX,p4]at ae;cases ae;have q4:ab h4 bj (oj+4)=some (ZZ e.b):=p2' 4 oM;have ts:((E.map Ent.b).take (i+1)).sum=((E.map Ent.b).take i).sum+e.b:=by rw[Sr,SY,p4];simp
 have f1:Fit ((E.map Ent.b).take i):=fit.sub (UF _ _);have f2:Fit ((E.map Ent.b).take (i+1)):=fit.sub (UF _ _);have n1:=f1.nn;have n2:=f2.nn;have m2:=f2.2.1;simp(disch:=omega) only[evs,seval,ah,g6,g5,g3,nR,ac,p1',q4];refine rqn ⟨E.length-(i+1),oM,F.then F4,i+1,iS,iX,iX,iX,oM,rfl⟩;have e:i=E.length:=oM;subst e;rw[Sf iS]at g5;simp only[evs,seval,g6,g0,g3,z0,re.len,(oM:¬(E.length:Int)<E.length)];apply aa (Af F.wf s5);rintro _ h4 ⟨c',ay,rfl,_,_,lo,F4⟩;have ac:=x0 (F.then F4);have ar:=x1 (F.then F4);have lm:((E.map Ent.b).length:Int)=E.length:=by simp
 simp only[evs,seval,eff];apply aa (Cm F4.wf lo.lo);rintro _ h5 ⟨rfl,F5⟩;have af:=x0 ((F.then F4).then F5);simp only[evs,seval,eff,g3,re.len,af,lm];apply aa (DK F5.wf (lo.fr F5).lo);rintro _ h6 ⟨rfl,F6⟩;simp only[evs,seval,DF,eff,g5,ac,af];exact F0.then ((F4.then F5).then F6)
theorem HO{N:Nat}{h:Heap}{b:Nat}{E:List Ent}(w:WF h)(s:SE N Ks h b E)(re:Recs Ent.cells 6 h vE E)(ie:∀e∈E,ItmH h e.x)(hE:E.length<=1024):
 ao go 19 [.ptr b 0,.agg [vE]] h fun u h'=>u=ZZ 1/\Fr [] h h':=rH w s.a re ie hE
theorem pM(x:Itm):∀{a b:PT},PT.same a b->cE x a=cE x b
 |.nil,.nil,_=>rfl
 |.cons _ _ _ _ _ _ _ s n,.cons _ _ _ _ _ _ _ s' n',⟨h1,h2,h3,h4,h5,h6,h7⟩=>by subst h1 h2 h3 h4 h5;simp only[cE,pM x h6,pM x h7]
 |.nil,.cons _ _ _ _ _ _ _ _ _,h=>h.elim
 |.cons _ _ _ _ _ _ _ _ _,.nil,h=>h.elim
theorem pF(h:bU Ks K)(cap:Int)(x:Itm):bO K cap x=bO Ks cap x:=by
 unfold bO;cases e:Ks[x.type]? with
 |none=>
  have:K[x.type]? =none:=by rw[Vb]at e|-;rw[<-dS h];exact e
  rw[this]
 |some q=>let⟨p,e2,s⟩:=mI h e;rw[e2];let⟨h1,h2,h3,h4,h5,_,_,_,h9⟩:=s;simp only[fu,h1,h2,h3,h4,h5,PT.same_count _ _ _ _ _ h9,pM x h9]
theorem yI{K:List Knd}{cap:Int}{p:Nat→Bool}:∀{seen:List Nat}{Y:List Itm},(∀y∈Y,okI y K.length=true∧bO K cap y=0∧p y.key=false∧y.key∉seen)→(Y.map Itm.key).Nodup→dQ K cap p seen Y=0
 |_,[],_,_=>rfl
 |seen,y::Y,h,n=>by let⟨h1,h2,h3,h4⟩:=h y iS;rw[List.map_cons,List.nodup_cons]at n;simp only[dQ];rw[h1,if_neg dI,if_neg iX,if_neg iX];refine yI (fun z m=>?_) n.2;let⟨g1,g2,g3,g4⟩:=h z iX;refine⟨g1,g2,g3,fun c=>?_⟩;obtain c|c:=List.mem_append.1 c;exact g4 c;grind
theorem pA:∀{L:List Int}{t:Int},(∀x∈L,1≤x∧x≤40)→t+40*L.length≤4611686018427387904→wz t L=0
 |[],_,_,_=>rfl
 |x::L,t,h,c=>by have:=h x iS;rw[List.length_cons]at c;simp only[wz];rw[if_neg oM,if_neg oM];exact pA (fun y m=>h y iX) oM
theorem jT:∀{L:List Int},(∀x∈L,1≤x∧x≤40)→0≤L.sum∧L.sum≤40*L.length
 |[],_=>by simp
 |x::L,h=>by have:=h x iS;have:=jT (L:=L) fun y m=>h y iX;simp only[List.sum_cons,List.length_cons];omega
theorem uh{L:List Int}(h:∀x∈L,1<=x/\x<=40)(Z:L.length<=1000):bZ [] 0 L=0:=by have:=jT h;unfold bZ;rw[if_pos iS,if_neg oO,if_pos (pA h oM),if_neg oO]
theorem rO:∀(X:List Itm)(mc:cC)(i:Nat),(X.map Itm.key).Nodup→∀k j,(dJ mc X i).1 k=some j↔(∃n x,X[n]? =some x∧x.key=k∧j=i+n)∨((∀x∈X,x.key≠k)∧mc.1 k=some j)
 |[],mc,i,_,k,j=>by simp[dJ]
 |x::r,mc,i,nd,k,j=>by
  rw[List.map_cons,List.nodup_cons]at nd;have ih:=rO r (lY mc x.key i) (i+1) nd.2 k j;simp only[dJ];rw[ih];have ms:(lY mc x.key i).1 k=if k=x.key then some i else mc.1 k:=by simp only[lY,j7]
  rw[ms];constructor;rintro(⟨n,y,h1,h2,h3⟩|⟨h1,h2⟩);exact .inl ⟨n+1,y,by simpa using h1,h2,oM⟩;by_cases c:k=x.key;rw[if_pos c]at h2;exact .inl ⟨0,x,rfl,c.symm,by cases h2;rfl⟩;grind;grind
theorem rP:∀(X:List Itm)(mc:cC)(i:Nat),(dJ mc X i).2≤mc.2+X.length
 |[],_,_=>Nat.le_refl _
 |x::r,mc,i=>by
  have:=rP r (lY mc x.key i) (i+1);have h2:(lY mc x.key i).2≤mc.2+1:=by simp only[lY];split<;>omega
  simp only[dJ,List.length_cons];omega
def Ent.ht(e:Ent):Nat×Int:=(e.x.key,e.b)
theorem uU{m:Nat→Option Nat}{E:List Ent}{bs:Ent→Int}(ix:IxOf m E)(hb:∀e∈E,1≤bs e∧bs e≤40)(h0:∀e∈E,e.kn=false→e.b=bs e)(h1:∀e∈E,e.kn=true→1≤e.b∧e.b≤40)(hl:E.length≤1000):
 ∀(n i c:Nat),i+n=E.length→∃c',jB m (((E.drop i).filter Ent.kn).map Ent.ht) c ((E.take i).map Ent.b++(E.drop i).map bs) ((E.take i).map Ent.kn++List.replicate n false)=(0,c',E.map Ent.b,E.map Ent.kn)
 |0,i,c,e=>by rw[List.drop_of_length_le oM,List.take_of_length_le oM];exact⟨c,by simp[jB]⟩
 |n+1,i,c,hi=>by
  have il:i<E.length:=oM;have p:E[i]? =some E[i]:=List.getElem?_eq_getElem il;generalize E[i]=e at p;have em:=List.mem_of_getElem? p;have lb:((E.take i).map Ent.b++(E.drop i).map bs).length=E.length:=by simp;omega
  have ih:=fun c=>uU ix hb h0 h1 hl n (i+1) c oM;have tk:((E.take i).map Ent.b).length=i:=by simp;omega
  have tk2:((E.take i).map Ent.kn).length=i:=by simp;omega
  rw[aK p];cases ek:e.kn with
  |false=>let⟨c',r⟩:=ih c;refine⟨c',?_⟩;rw[List.filter_cons_of_neg iX];rw[List.take_add_one,p]at r;simp only[Option.toList_some,List.map_append,List.map_cons,List.map_nil,List.append_assoc,List.singleton_append,ek,h0 e em ek]at r;rw[List.map_cons,List.replicate_succ];exact r
  |true=>
   let⟨c',r⟩:=ih (c+1);refine⟨c',?_⟩;rw[List.filter_cons_of_pos iX,List.map_cons,List.map_cons,List.replicate_succ];have mk:m e.x.key=some i:=(ix _ i).2 ⟨e,p,rfl⟩;have all:∀x∈(E.take i).map Ent.b++bs e::(E.drop (i+1)).map bs,1≤x∧x≤40:=by grind
   have sl:=jT all;have ll:((E.take i).map Ent.b++bs e::(E.drop (i+1)).map bs).length=E.length:=by simp;omega
   have g:((E.take i).map Ent.b++bs e::(E.drop (i+1)).map bs).getD i 0=bs e:=by grind
   have hx:eU ((E.take i).map Ent.b++bs e::(E.drop (i+1)).map bs) i e.b=0:=by have b1:=h1 e em ek;have b2:=hb e em;unfold eU;rw[if_pos ⟨oM,by rw[ll];omega⟩,if_neg oM,Int.toNat_natCast,g,if_neg (by rw[ll]at sl;omega)]
   have s1:((E.take i).map Ent.b++bs e::(E.drop (i+1)).map bs).set i e.b=(E.take i).map Ent.b++e.b::(E.drop (i+1)).map bs:=by grind
   have s2:((E.take i).map Ent.kn++false::List.replicate n false).set i true=(E.take i).map Ent.kn++true::List.replicate n false:=by grind
   rw[List.take_add_one,p]at r;simp only[Option.toList_some,List.map_append,List.map_cons,List.map_nil,List.append_assoc,List.singleton_append,ek]at r;simp only[jB,Ent.ht,mk,hx,if_pos,s1,s2];exact r
theorem Mf(q i:Nat)(Z:i<5):aP (.ixs 2) [.slice q 0 5 5,ZZ (i:Int)]=some (.ptr q (i*2)):=by have:i=0\/i=1\/i=2\/i=3\/i=4:=oM;obtain rfl|rfl|rfl|rfl|rfl:=this<;>simp[aP]<;>exact⟨_,rfl,rfl⟩
def FP(b:Nat):List V:=[ZY 1,.func (.func 46) [.ptr b 0] [],ZY 2,.func (.func 47) [.ptr b 0] [],ZY 3,.func (.func 48) [.ptr b 0] [],ZY 4,.func (.func 49) [.ptr b 0] [],ZY 5,.func (.func 50) [.ptr b 0] []]
theorem uB{h:Heap}{b B S k n:Nat}{a c t:Int}{X:List Itm}{l:List Int}{v:V}{mc:cC}{R:V->Heap->Prop}(w:WF h)(s:Sto n0 h b Ks cap X l kn st vK bg B bm S bl pm mc)
 (hk:k<256) (sl:ASl h 4 v n cs) (hE:∀h',dq k a c t n≠0->Fr [] h h'->R (ZZ (dq k a c t n)) h') (hD:dq k a c t n=0->∀h',Fr [] h h'->ao go (45+k) [.ptr b 0,.agg [ZY (k:Int),ZZ a,ZZ c,ZZ t,v]] h' R):
 ao go 9 [.ptr b 0,.agg [ZY (k:Int),ZZ a,ZZ c,ZZ t,v]] h R:=by
 have v1:v.one=true:=VB sl;let⟨h1,e_h1,F_h1,o_h1⟩:=aq w [ZY (k:Int),ZZ a,ZZ c,ZZ t,v];have s1:=s.fr w F_h1;have l5:aj h1 h.next 0 5=some [ZY (k:Int),ZZ a,ZZ c,ZZ t,v]:=by rw[o_h1.ld];rfl
 refine ag ?_;simp only[evs,↓reduceIte,Nat.reduceEqDiff,Nat.reduceAdd,<-e_h1];refine aa (iA s1) ?_;rintro _ _ ⟨rfl,rfl⟩;simp only[evs,↓reduceIte,Nat.reduceEqDiff,l5];apply aa (uR F_h1.wf hk (sl.fr F_h1));rintro _ h2 ⟨rfl,F2⟩;have ak:=F_h1.then F2;by_cases c0:dq k a c t n=0;have kk:1<=k/\k<=5:=by unfold dq at c0;split at c0;cases c0;omega
 simp only[evs,↓reduceIte,Nat.reduceEqDiff,Nat.reduceAdd,Nat.reduceLT,c0];obtain⟨h3,Z⟩:∃h3,h3=halloc h2 (FP b):=⟨_,rfl⟩;have K:Fr [] h2 h3:=Z▸SO F2.wf _;have o3:Own h3 h2.next (FP b):=Z▸Ts F2.wf _;change W _ _ _ (halloc h2 (FP b)) _;rw[<-Z];have n3:=hnx Z;have row:∀hh,Fr [] h3 hh->∀i,i<5->aj hh h2.next (i*2) 2=some [ZY ((i+1:Nat):Int),.func (.func (46+i)) [.ptr b 0] []]:=by intro hh f i hi;have:i=0\/i=1\/i=2\/i=3\/i=4:=oM;rw[(f.get o3).ld];obtain rfl|rfl|rfl|rfl|rfl:=this<;>rfl
 refine aC (fun n env hh=>Fr [] h3 hh/\∃(i:Nat),env.get 32=some (ZZ i)/\env.get 31=some (ZZ (5:Nat))/\env.get 30=some (.slice h2.next 0 5 5)/\env.get 0=some (.ptr b 0)/\env.get 3=some (.ptr h.next 0)/\i<k/\n=5-i) 5 oM ?_ ?_;exact⟨Sn K.wf,0,iS,iS,iS,iS,iS,oM,rfl⟩;rintro n env hh ⟨F,i,af,ax,ay,g0,g3,hi,rfl⟩;have an:i<5:=oM;have ar:(i:Int)<(5:Nat):=oM;have p1:=Mf h2.next i an;have p3:=row hh F i an;let⟨h4,e_h4,F_h4,o_h4⟩:=aq F.wf [ZY 0,.nilf];simp only[evs,↓reduceIte,Nat.reduceEqDiff,af,ax,ay,ar,p1,p3,<-e_h4];apply stu F_h4.wf o_h4;rintro h5 o5 F5 n5;have ae:Fr [] hh h5:=F_h4.fresh F5 F.wf (RW _);have x0:ab h5 hh.next 0=some (ZY ((i+1:Nat):Int)):=o5.ld1 0;have x1:ab h5 hh.next 1=some (.func (.func (46+i)) [.ptr b 0] []):=o5.ld1 1;have Fa:=((ak.then K).then F).then ae;have on:=((((F2.then K).then F).then ae).get o_h1);have y0:ab h5 h.next 0=some (ZY (k:Int)):=on.ld1 0;have y5:aj h5 h.next 0 5=some [ZY (k:Int),ZZ a,ZZ c,ZZ t,v]:=by rw[on.ld];rfl
 by_cases ek:k=i+1;have ac:(((i+1:Nat):Int)=(k:Int)):=oM;have az:46+i<1099511627776:=oM;simp only[evs,↓reduceIte,Nat.reduceEqDiff,g3,x0,x1,y0,y5,eq_true ac,az];refine Uu (show ao go (46+i) _ h5 R from ?_) ?_;have:=hD c0 h5 Fa;rw[(oM:45+k=46+i)]at this;exact this;intro u h' r;simp only[evs,↓reduceIte];exact r;have ac:¬(((i+1:Nat):Int)=(k:Int)):=oM;simp(disch:=omega) only[evs,↓reduceIte,Nat.reduceEqDiff,ah,af,g3,x0,y0,eq_false ac];refine rqn ⟨5-(i+1),oM,F.then ae,i+1,iS,iX,iX,iX,iX,oM,rfl⟩;simp only[evs,↓reduceIte,Nat.reduceEqDiff,eq_false c0];exact hE _ c0 ak
structure LOk(Ks:List Knd)(h:Heap)(E:List Ent):Prop where
 h:∀e∈E,ItmH h e.x/\nZ e.x.vm=true/\okI e.x 3=true/\bO Ks 12 e.x=0
 b:∀e∈E,e.kn=false->e.b=aF Ks e.x
 c:∀e∈E,e.kn=true->1<=e.b/\e.b<=40
 n:(E.map fun e=>e.x.key).Nodup
 l:E.length<=1000
 r:okR Ks 12=true/\Ks.length=3/\GK Ks
theorem Sto.wrlt{h:Heap}{b B S:Nat}{X:List Itm}{l:List Int}{mc:cC}(w:WF h)(s:Sto n0 h b Ks cap X l kn st vK bg B bm S bl pm mc):∀y∈Wr b bg B bm S bl pm,y<h.next:=by intro y m;simp only[Wr,pi,Sk,SH,or_false]at m;obtain(rfl|rfl|rfl|rfl|rfl|rfl)|m:=m;exact s.ob.lt w;exact s.g.ob.1.lt w;exact s.gB.lt w;exact s.k.lt w;exact s.Sl';exact s.bl';exact s.pl y (eV m)
theorem uW{h:Heap}{b o n m:Nat}{r:List V}(e:aj h b o n=some r)(l:m<=n):aj h b o m=some (r.take m):=by unfold aj at e|-;split at e;obtain⟨rfl,q⟩:=jS e;rw[bK _ _ oM,TQ,TM l];cases e
theorem LOk.fr{h:Heap}{E:List Ent}(a:LOk Ks h E)(f:Fr [] h h'):LOk Ks h' E:=⟨fun e m=>⟨(a.h e m).1.fr f,(a.h e m).2⟩,a.b,a.c,a.n,a.l,a.r⟩
theorem LOk.base{h:Heap}{E:List Ent}(a:LOk Ks h E):∀e∈E,1<=aF Ks e.x/\aF Ks e.x<=40:=by intro e m;have t:=(a.h e m).2.2.1;simp only[okI,RU,decide_eq_true_eq]at t;have p:Ks[e.x.type]? =some (Ks[e.x.type]'(by rw[a.r.2.1];exact t.2.1)):=Sm _;generalize Ks[e.x.type]'(by rw[a.r.2.1];exact t.2.1)=q at p;have g:=(a.r.2.2 q (RZ p)).2.2;rw[aF,p];exact g
theorem LOk.okZ{h:Heap}{E:List Ent}(a:LOk Ks h E):okZ E:=by intro e m;cases Z:e.kn;have:=a.base e m;rw[a.b e m Z];omega;have:=a.c e m Z;omega
theorem LOk.key{h:Heap}{E:List Ent}(a:LOk Ks h E):∀e∈E,0<e.x.key:=by intro e m;have t:=(a.h e m).2.2.1;simp only[okI,RU,decide_eq_true_eq]at t;omega
theorem _root_.Go.Ev.Gs.dj{h:Heap}{B e:Nat}{v:V}(g:Gs h B e v cs)(f:Fr Z h h')(d:∀z∈Z,z∉vb v):Gs h' B e v cs:=by obtain z|⟨b,n,K,z2,z3,z4,o⟩:=g;exact .inl z;exact .inr ⟨b,n,K,z2,z3,z4,f.own _ _ (fun m=>d _ m (by rw[K];simp[vb])) o⟩
theorem Cps.vals:∀{a b:List Itm},Cps a b→b.map Itm.val=a.map Itm.val
 |[],[],_=>rfl
 |_::_,_::_,h=>by obtain⟨⟨v,rfl,_⟩,h2⟩:=h;simp only[List.map_cons,Cps.vals h2];rfl
 |[],_::_,h=>h.elim
 |_::_,[],h=>h.elim
theorem C3{X:List Itm}{E:List Ent}(ev:X.map Itm.val=E.map (fun e=>e.x.val))(n:(E.map fun e=>e.x.key).Nodup):IxOf (dJ (fun _=>none,0) X 0).1 E:=by
 have ek:X.map Itm.key=E.map (fun e=>e.x.key):=by have:=congrArg (List.map Prod.fst) ev;rw[List.map_map,List.map_map]at this;exact this
 intro k j;rw[rO X _ 0 (by rw[ek];exact n)];constructor;rintro(⟨n,x,h1,h2,h3⟩|⟨_,h2⟩);have:=congrArg (fun l=>l[n]?) ek;simp only[List.getElem?_map,h1]at this;cases q:E[n]? with
 |none=>rw[q]at this;cases this
 |some e=>rw[q]at this;exact⟨e,by rw[(oM:j=n)];exact q,by rw[←h2];exact(Option.some.inj this).symm⟩
 cases h2;rintro⟨e,h1,h2⟩;have:=congrArg (fun l=>l[j]?) ek;simp only[List.getElem?_map,h1]at this;cases q:X[j]? with
 |none=>rw[q]at this;cases this
 |some x=>rw[q]at this;exact .inl ⟨j,x,q,by rw[←h2];exact Option.some.inj this,oM⟩
theorem IA{N:Nat}{h:Heap}{b B S:Nat}{v:V}{E:List Ent}(w:WF h)(s:Sto n0 h b K 12 [] [] [] [] vK bg B bm S bl pm (fun _=>none,0))(sk:bU Ks K)(wr:∀y∈Wr b bg B bm S bl pm,y<N)(o:LOk Ks h E)
 (hi:∀(Z:List Nat)(h':Heap),(∀z∈Z,z∈Wr b bg B bm S bl pm\/h.next<=z)->Fr Z h h'->∀e∈E,ItmH h' e.x) (g:Gs h N 4 v ((E.map Ent.x).flatMap Itm.cells)):ao go 9 [.ptr b 0,.agg [ZY 1,ZZ 0,ZZ 0,ZZ 0,v]] h fun u h'=>u=ZZ 0/\Fr (Wr b bg B bm S bl pm) h h'/\
  ∃X st B' S' pm' mc,Sto n0 h' b K 12 X (E.map fun e=>aF Ks e.x) (List.replicate E.length false) st vK bg B' bm S' bl pm' mc/\X.map Itm.val=E.map (fun e=>e.x.val)/\(∀x∈X,nZ x.vm=true)/\IxOf mc.1 E/\mc.2<=1024/\
   ∀y∈Wr b bg B' bm S' bl pm',y∈Wr b bg B bm S bl pm\/h.next<=y:=by
 have sl:Sl h 4 v (E.map Ent.x).length ((E.map Ent.x).flatMap Itm.cells):=VW g (aJ aZ _) oM;have v1:=sl.one;have el:(E.map Ent.x).length=E.length:=by simp
 have hl:=o.l;have ac:okR K 12=true:=by rw[<-jw sk];exact o.r.1
 have e0:dq 1 0 0 0 (E.map Ent.x).length=0:=by simp[dq]
 refine uB (k:=1) (n:=(E.map Ent.x).length) w s oM (Sl.a sl) (fun h' c f=>absurd e0 c) (fun _ h1 f1=>?_);have s1:=s.fr w f1;have eb:(E.map Ent.x).map (aF K)=E.map fun e=>aF Ks e.x:=by rw[Te];exact Ut fun e m=>(gG sk e.x).1
 have nd:((E.map Ent.x).map Itm.key).Nodup:=by rw[Te];exact o.n
 have er:jP K 12 0 [] (E.map Ent.x) [] (fun _=>false)=0:=by
  unfold jP;have ae:dQ K 12 (fun _=>false) [] (E.map Ent.x)=0:=by refine yI (fun y m=>?_) nd;obtain⟨e,em,rfl⟩:=SX.1 m;let⟨_,_,q1,q2⟩:=o.h e em;exact⟨by rw[<-dS sk,o.r.2.1];exact q1,by rw[pF sk];exact q2,rfl,iS⟩
  rw[if_neg iS,if_neg oO,ae,if_neg dI,eb];exact uh (fun x m=>by obtain⟨e,em,rfl⟩:=SX.1 m;exact o.base e em) oO
 refine Uu (uY (a:=0) f1.wf s1 oM ac iS iS iS (Y:=E.map Ent.x) (fun Z h' hZ f=>?_) (fun y m=>?_) oM (by simp only[av,aB,v1];rfl)) ?_;have n1:=f1.next;have gl:=g.lt w;have f':Fr Z h h':=Sj f1 f w iS (fun x m=>.inl m);refine⟨Sl.a (VW (g.dj f' fun z m c=>?_) (aJ aZ _) oM),fun y m=>?_⟩;have:=g.vb z c;have:=gl z c;obtain q|q:=hZ z m;grind;omega;grind;obtain⟨e,em,rfl⟩:=SX.1 m;exact(o.h e em).2.1;rintro _ h' ⟨rfl,_,r2⟩;have af:jP K 12 0 [] (E.map Ent.x) [] (fun x=>(((fun _=>none,0):cC).1 x).isSome)=0:=er;rw[af]at r2|-;let⟨_,_,_,Y',B',S',pm',cp,s2,f2,q1,q2,q3⟩:=r2 rfl;rw[eb]at s2;simp only[Int.toNat_zero,List.take_nil,List.drop_nil,TO,Tq,UA,el]at s2;have ev:Y'.map Itm.val=E.map (fun e=>e.x.val):=by rw[cp.vals,Te];rfl
 refine⟨rfl,Sj f1 f2 w iS (fun x m=>.inl m),Y',_,B',S',pm',_,s2,ev,cp.nz,C3 ev o.n,?_,?_⟩;have:=rP Y' (fun _=>none,0) 0;have:=cp.len;simp only[]at *;omega;have n1:=f1.next;intro y m;simp only[Wr,pi,Sk,SH,or_false]at m|-;obtain(m|m|m|m|m|m)|m:=m;omega;omega;omega;omega;omega;omega;grind
theorem Id{h:Heap}{b B S:Nat}{v:V}{E:List Ent}{X:List Itm}{mc:cC}(w:WF h)(s:Sto n0 h b K 12 X (E.map fun e=>aF Ks e.x) (List.replicate E.length false) st vK bg B bm S bl pm mc)
 (ix:IxOf mc.1 E) (o:LOk Ks h E) (sv:∀(Z:List Nat)(h':Heap),(∀z∈Z,z∈Wr b bg B bm S bl pm\/h.next<=z)->Fr Z h h'->ARecs htC 2 h' v ((E.filter Ent.kn).map Ent.ht)):
 ao go 12 [.ptr b 0,v] h fun u h'=>∃c:Int,u=.tup [ZZ c,ZZ 0]/\Fr (bl::pm.toList) h h'/\Sto n0 h' b K 12 X (E.map Ent.b) (E.map Ent.kn) st vK bg B bm S bl pm mc:=by
 have hl:=o.l;let⟨c',em⟩:=uU ix o.base o.b o.c oM E.length 0 0 oM;simp only[UA,Vy,UR,TO]at em;refine Uu (yf w s sv (fun x m=>?_) (by have:=UU Ent.kn E;simp;omega) (fun k j q=>?_)) ?_;obtain⟨e,me,rfl⟩:=SX.1 m;have ac:=UE.1 me;have:=o.c e ac.1 ac.2;exact⟨(o.h e ac.1).1.k,by show _<=e.b;omega,by show e.b<=_;omega⟩;let⟨e,h1,_⟩:=(ix k j).1 q;have:=(Ss.1 h1).1;omega;rintro _ h' ⟨rfl,r1,_⟩;rw[em]at r1|-;let⟨f,s2⟩:=r1 rfl;exact⟨_,rfl,f,s2⟩
theorem D5{h:Heap}{E:List Ent}(w:WF h)(rk:Recs Knd.cells 9 h vK Ks)(kh:∀q∈Ks,KndH h q)(re:Recs Ent.cells 6 h vE E)(o:LOk Ks h E):
 ao go 17 [.agg [vK,ZZ 12],.agg [vE]] h fun u h'=>∃b,u=.ptr b 0/\Fr [] h h'/\SE h.next Ks h' b E:=by
 have v1:vK.one=true:=TI rk;have v2:vE.one=true:=TI re;have hl:=o.l;let⟨h1,e_h1,F_h1,o_h1⟩:=aq w [vK,ZZ 12];let⟨h2,e_h2,F_h2,o_h2⟩:=aq F_h1.wf [vE];have n1:=hnx e_h1;have n2:=hnx e_h2;have af:=F_h1.then F_h2;have c0:aj h2 h.next 0 2=some [vK,ZZ 12]:=by rw[(F_h2.get o_h1).ld];rfl
 refine ag ?_;simp only[evs,seval,<-e_h1,<-e_h2,c0];refine aa (Bb af.wf (TK rk af) (fun q m=>(kh q m).fr af) (by rw[o.r.2.1];omega) o.r.1) ?_;rintro _ h3 ⟨b,bg,bm,bl,bh,K,rfl,F3,sk,s3,ge⟩;have a3:=af.then F3;simp only[evs,seval];let⟨h4,e_h4,F_h4,o_h4⟩:=aq F3.wf [ZY 0,ZZ 0,ZZ 0,ZZ 0,.nils];have n4:=hnx e_h4;simp only[<-e_h4];apply stu F_h4.wf o_h4;rintro h5 o5 F5 n5;have a6:Fr [] h3 h5:=F_h4.fresh F5 F3.wf (RW _);have wl:∀y∈Wr b bg h2.next bm bm bl none,h2.next<=y/\y<h3.next:=fun y m=>⟨ge y m,s3.wrlt F3.wf y m⟩;simp only[evs];refine aC (fun n env hh=>Fr [] h3 hh/\∃(i:Nat)(vI vT:V),env.get 9=some (ZZ i)/\env.get 8=some vT/\env.get 7=some (.ptr h3.next 0)/\env.get 5=some (.ptr b 0)/\env.get 3=some (.ptr h1.next 0)/\i<=E.length/\Own hh h3.next [ZY 1,ZZ 0,ZZ 0,ZZ 0,vI]/\
  Gs hh h4.next 4 vI (((E.take i).map Ent.x).flatMap Itm.cells)/\Gs hh h4.next 2 vT ((((E.take i).filter Ent.kn).map Ent.ht).flatMap htC)/\(∀z∈vb vI,z∉vb vT)/\n=E.length-i) E.length oM ?_ ?_
 exact⟨a6,0,.nils,.nils,iS,iS,iS,iS,iS,oM,o5,.inl ⟨rfl,rfl⟩,.inl ⟨rfl,rfl⟩,by simp[vb],rfl⟩;rintro n env hh ⟨F,i,vI,vT,g9,g8,g7,g5,g3,hi,on,GI,GT,dj,rfl⟩;have nF:=F.next;have bn:=on.lt F.wf;have ac:=a3.then F;have an:ab hh h1.next 0=some vE:=((F3.then F).get o_h2).ld1 0;by_cases c:i<E.length;have p4:E[i]? =some E[i]:=Sm c;generalize E[i]=e at p4;have em:=RZ p4;have ae:=((o.h e em).1).fr ac;have rd:∀{H},Fr [] h H->∃bi oi,aP (.ixs 6) [vE,ZZ (i:Int)]=some (.ptr bi oi)/\aj H bi oi 4=some e.x.cells/\ab H bi oi=some (ZX (e.x.key:Int))/\ab H bi (oi+4)=some (ZZ e.b)/\ab H bi (oi+5)=some (.bool e.kn):=by intro H f;let⟨bi,oi,e',p1,p2,p3,a1⟩:=(re.fr f).ix aR .i64 (i:Int) oM oM;rw[RX,p4]at a1;cases a1;exact⟨bi,oi,p1,uW p3 oM,p2 0 oM,p2 4 oM,p2 5 oM⟩
 let⟨bi,oi,p1,p3,_⟩:=rd ac;let⟨hx,e_hx,F_hx,o_hx⟩:=aq F.wf e.x.cells;have nx:=hnx e_hx;have i0:ab hh h3.next 4=some vI:=on.ld1 4;have i1:ab hx h3.next 4=some vI:=(F_hx.get on).ld1 4;have u1:bu [ZX 0,ZY 0,.str [],.nils] 0 e.x.cells=some e.x.cells:=rfl;simp only[evs,seval,eff,g9,g7,g3,an,re.len,(oM:(i:Int)<E.length),i0,p1,p3,u1,(iR:e.x.cells.length=4),<-e_hx];have ib:=GI.vb;have il:=GI.lt F.wf;have tb:=GT.vb;have tl:=GT.lt F.wf;refine Uw (bytes:=56) (n:=1) F_hx.wf (GI.fr F_hx) (TH o_hx rfl) oM oM ae.one oM (by rw[aJ aZ];simp;omega) ?_;intro ak hy a0 eI FI;have a8:=FI.own _ _ (fun m=>by have:=ib _ m;omega) (F_hx.get on);have c1:=a0.one;simp only[evs,seval,eff,g7];refine ai (c':=[ZY 1,ZZ 0,ZZ 0,ZZ 0,ak]) FI.wf a8 (by rw[aw c1];rfl) (by rw[aw c1];simp only[av,aB,c1];rfl) (by rw[aw c1];rfl) ?_;rintro hz oz Fz nz;have nI:=FI.next;have n3:=F.next;have FN:Fr [] h3 hz:=(TL F3.wf (F.then F_hx) FI (fun z m=>by have:=ib z m;omega)).fresh Fz F3.wf (RW _);have a7:=a3.then FN;have ax:=a0.keep Fz oO;have a4:=((GT.fr F_hx).dj FI (fun z m=>dj z m)).keep Fz oO;have dz:∀z∈vb ak,z∉vb vT:=by grind
 have ay:ab hz h1.next 0=some vE:=((F3.then FN).get o_h2).ld1 0;let⟨bz,oz',q1,q3,q0,q4,q5⟩:=rd a7;have a2:((E.take (i+1)).map Ent.x).flatMap Itm.cells=((E.take i).map Ent.x).flatMap Itm.cells++e.x.cells:=by rw[Sr,p4];simp
 simp(disch:=omega) only[evs,seval,DF,eff,ah,g9,g8,g3,ay,q1,q5,i0,i1,an,p3];cases ek:e.kn with
 |false=>
  have ar:(E.take (i+1)).filter Ent.kn=(E.take i).filter Ent.kn:=by rw[Sr,p4,Ug];simp[ek]
  simp only[evs,seval];refine rqn ⟨E.length-(i+1),oM,FN,i+1,ak,vT,iS,iX,iX,iX,iX,oM,oz,by rw[a2];exact ax,by rw[ar];exact a4,dz,rfl⟩
 |true=>
  let⟨hq,e_hq,F_hq,o_hq⟩:=aq Fz.wf [ZX (e.x.key:Int),ZZ e.b];have nq:=hnx e_hq;simp only[evs,seval,eff,g9,g3,ay,q1,q0,q4,<-e_hq];refine Uw (bytes:=16) (n:=1) F_hq.wf (a4.fr F_hq) (TH o_hq rfl) oM oM rfl oM (by rw[aJ (f:=htC) (k:=2) (fun _=>rfl)];have:=UU Ent.kn (E.take i);simp at this|-;omega) ?_;intro a5 hr a9 eT FT;have FR:Fr [] h3 hr:=TL F3.wf (FN.then F_hq) FT (fun z m=>by have:=tb z m;omega);have bk:=FT.own _ _ (fun m=>by have:=tb _ m;omega) (F_hq.get oz);have bj:=(ax.fr F_hq).dj FT (fun z m c=>dz z c m);have bc:=ax.lt Fz.wf;have ar:(((E.take (i+1)).filter Ent.kn).map Ent.ht).flatMap htC=(((E.take i).filter Ent.kn).map Ent.ht).flatMap htC++[ZX (e.x.key:Int),ZZ e.b]:=by rw[Sr,p4,Ug];simp[ek];rfl
  simp(disch:=omega) only[evs,seval,DF,eff,ah,g9,ay,q0,q4];refine rqn ⟨E.length-(i+1),oM,FR,i+1,ak,a5,iS,iS,iX,iX,iX,oM,bk,by rw[a2];exact bj,by rw[ar];exact a9,?_,rfl⟩;intro z m c;rw[eT,Su]at c;have:=bc z m;omega
 have ei:i=E.length:=oM;subst ei;rw[Sf (RW _)]at GI GT;have l5:aj hh h3.next 0 5=some [ZY 1,ZZ 0,ZZ 0,ZZ 0,vI]:=by rw[on.ld];rfl
 have tb:=GT.vb;have tl:=GT.lt F.wf;have sh:=s3.fr F3.wf F;have oh:=o.fr ac;simp only[evs,seval,g9,g7,g5,g3,an,re.len,(oM:¬(E.length:Int)<E.length),l5];refine aa (IA (N:=h4.next) F.wf sh sk (fun y m=>by have:=wl y m;omega) oh (fun Z h' hZ f e m=>?_) GI) ?_;refine(o.h e m).1.fr (TL w ac f fun z mz=>?_);have:=ac.next;obtain q|q:=hZ z mz;grind;omega;rintro _ ha ⟨rfl,Fa,X,st,B',S',aH,mc,sa,ev,nz,ix,ba,bf⟩;have az:Fr [] h ha:=TL w ac Fa (fun z m=>by have:=wl z m;omega);have na:=Fa.next;simp only[evs,seval,g8,g5];refine aa (Id Fa.wf sa ix (o.fr az) (fun Z h' hZ f=>?_)) ?_;refine Sl.a (VW (n:=((E.filter Ent.kn).map Ent.ht).length) ((GT.dj Fa (fun z m c=>?_)).dj f (fun z m c=>?_)) (aJ (f:=htC) (k:=2) (fun _=>rfl) _) oM);grind;grind;rintro _ hb ⟨c',rfl,Fb,sb⟩;simp only[evs,seval,g5];have wn:∀y∈Wr b bg B' bm S' bl aH,h.next<=y:=by intro y m;obtain q|q:=bf y m;grind;have:=ac.next;omega
 refine⟨b,rfl,TL w az Fb (fun z m=>wn z ?_),(h2.next,none),K,X,st,bh,bg,B',bm,S',bl,aH,mc,sb,sk,ev,nz,ix,ba,wn,af.next⟩;obtain rfl|m:=Sk.1 m;simp[Wr];exact pi.2 (.inr m)
def SN(k:Nat)(tg ky:Str)(at':List (Str×Str))(tx:Str)(sub:NT):Prop:=∀(h:Heap)(va vc va' vc':V)(sub':NT),WF h->sub'.sh=sub.sh->NH h (.cons k tg ky at' tx va vc sub .nil)->NH h (.cons k tg ky at' tx va' vc' sub' .nil)->
 ao go 75 [.agg [ZY (k:Int),.str tg,.str ky,va,.str tx,vc],.agg [ZY (k:Int),.str tg,.str ky,va',.str tx,vc']] h fun u h'=>u=.bool true/\Fr [] h h'
def SNs:NT->Prop
 |.nil=>True
 |.cons k tg ky at' tx _ _ sub nx=>SN k tg ky at' tx sub/\SNs nx
theorem SNs.at':∀{t:NT}(i:Nat),SNs t->SNs (t.at' i)
 |.nil,0,_=>trivial
 |.nil,_+1,_=>trivial
 |.cons _ _ _ _ _ _ _ _ _,0,a=>a
 |.cons _ _ _ _ _ _ _ _ _,i+1,⟨_,b⟩=>SNs.at' i b
theorem TreeS.on{N:Nat}{K:Heap}{x:Itm}(t:TreeS N h' Ks x cs)(f:Fr Z h' K)(hZ:∀z∈Z,z<N):TreeS N K Ks x cs:=by let⟨q,s,va,vc,t1,t2,t3,t4⟩:=t;refine⟨q,s,va,vc,t1,t2,fun X h3 hX g=>?_,t4⟩;refine t3 (Z++X) h3 (fun y m=>(pi.1 m).elim (hZ y) (hX y)) ⟨SD f.next g.next,g.wf,fun b c hb o=>g.own b c (fun m=>hb (pi.2 (.inr m))) (f.own b c (fun m=>hb (pi.2 (.inl m))) o),fun b c hb o=>g.pl b c (fun m=>hb (pi.2 (.inr m))) (f.pl b c (fun m=>hb (pi.2 (.inl m))) o),fun b x hx e=>g.lp b x hx (f.lp b x hx e),fun b c r=>g.ro b c (f.ro b c r)⟩
theorem TreeS.le{N M:Nat}{x:Itm}(t:TreeS N h' Ks x cs)(l:M<=N):TreeS M h' Ks x cs:=by let⟨q,s,va,vc,t1,t2,t3,t4⟩:=t;exact⟨q,s,va,vc,t1,t2,fun X K Z g=>t3 X K (fun y m=>Ty (Z y m) l) g,t4⟩
theorem rY{h:Heap}{x:Itm}(w:WF h)(rk:Recs Knd.cells 9 h vK Ks)(kh:∀q∈Ks,KndH h q)(a:ItmH h x)(ht:x.type<Ks.length):
 ao go 73 [.agg [vK,ZZ cap],.agg x.cells] h fun u h'=>∃cs,u=.tup [.agg cs,ZZ (bO Ks cap x)]/\Fr [] h h'/\au cs=true/\cs.length=6/\(bO Ks cap x=0->TreeS h.next h' Ks x cs):=by
 have v1:vK.one=true:=TI rk;let⟨h0,e_h0,F_h0,o_h0⟩:=aq w [vK,ZZ cap];let⟨h1,e_h1,F_h1,o_h1⟩:=aq F_h0.wf x.cells;let⟨K,e_h2,F_h2,o_h2⟩:=aq F_h1.wf [ZY 0,.str [],.str [],.nils,.str [],.nils];have n0:=hnx e_h0;have n1:=hnx e_h1;have n2:=hnx e_h2;have Z:=F_h0.then (F_h1.then F_h2);have ob:=F_h2.get (F_h1.get o_h0);have ox:=F_h2.get o_h1;have l0:ab K h.next 0=some vK:=ob.ld1 0;have l1:ab K h.next 1=some (ZZ cap):=ob.ld1 1;have x1:ab K h0.next 1=some (ZY (x.type:Int)):=ox.ld1 1;have x4:aj K h0.next 0 4=some x.cells:=by rw[ox.ld];rfl
 let⟨bk,ok',q,p1,_,p3,p4⟩:=(TK rk Z).ix eM .u8 (x.type:Int) oM oM;rw[RX]at p4;have hq:=kh q (RZ p4);have er:bO Ks cap x=fu q.k q.tg q.ky q.sl q.tx q.sub x cap:=by simp[bO,p4]
 have p6:aj K bk ok' 6=some q.part:=uW p3 oM;refine ag ?_;simp only[evs,seval,eff,<-e_h0,<-e_h1,<-e_h2,l0,x1,p1,p6,x4,l1];refine aa (uD (vs:=q.vs) (vp:=q.vp) F_h2.wf (hq.fr Z) (a.fr Z)) ?_;rintro _ h3 ⟨cs,rfl,F3,z1,z2⟩;have on:au cs=true/\cs.length=6:=by by_cases z:fu q.k q.tg q.ky q.sl q.tx q.sub x cap=0;obtain⟨s,va,vc,rfl,n,_⟩:=z2 z;exact⟨NH.ones (n [] h3 iS (Sn F3.wf)),rfl⟩;rw[z1 z];exact⟨rfl,rfl⟩
 have ac:=F3.get o_h2;simp only[evs,seval,eff];refine ai (c':=cs) F3.wf ac on.2 on.1 (by
  rw[bQ _ _ _ (by show 0+cs.length<=6;omega)];simp[V.cells];omega) ?_
 rintro h4 o4 F4 n4;have l4:aj h4 h1.next 0 6=some cs:=by rw[o4.ld,fK,bK _ _ oM,Sf oM]
 simp only[evs,seval,DF,eff,l0,x1,p6,x4,l1,l4];refine⟨cs,by rw[er],(Z.then F3).fresh F4 w oM,on.1,on.2,fun z=>?_⟩;rw[er]at z;let⟨s,va,vc,e,n,es⟩:=z2 z;refine TreeS.le (N:=K.next) ⟨q,s,va,vc,p4,e,fun X hh hX f=>n ([h1.next]++X) hh (fun y m=>?_) (Sj F4 f F3.wf (fun y m=>.inl (pi.2 (.inl m))) (fun y m=>.inl (pi.2 (.inr m)))),es,qg z⟩ oM;obtain m|m:=pi.1 m;simp at m;omega;exact hX y m
theorem CX{h:Heap}{E:List Ent}(w:WF h)(re:Recs Ent.cells 6 h vE E)(ie:∀e∈E,ItmH h e.x)(hE:E.length<=4096)(ok:okZ E)(hs:(E.map Ent.b).sum<=4611686018427387904):
 ao go 82 [.agg [vE]] h fun u h'=>u=ZZ (E.map Ent.b).sum/\Fr [] h h':=by
 have v1:vE.one=true:=TI re;let⟨h1,e_h1,F_h1,o_h1⟩:=aq w [vE];have x0:ab h1 h.next 0=some vE:=o_h1.ld1 0;refine ag ?_;simp only[evs,seval,<-e_h1,x0,(re.fr F_h1).len];refine aC (fun n env K=>Fr [] h K/\∃i:Nat,env.get 10=some (ZZ i)/\env.get 9=some (ZZ E.length)/\env.get 8=some vE/\env.get 3=some (ZZ ((E.take i).map Ent.b).sum)/\i<=E.length/\n=E.length-i) E.length oM ?_ ?_;exact⟨F_h1,0,iS,iS,iS,iS,oM,rfl⟩;rintro n env K ⟨F,i,Z,g9,g8,g3,hi,rfl⟩;have nn:=(ok.take i).sum_nn;by_cases c:i<E.length;let⟨bi,oi,e,p1,_,p3,p4⟩:=(re.fr F).ix aR .i64 (i:Int) oM oM;rw[RX]at p4;have em:=RZ p4;have ob:=ok e em;have ts:=DV p4;have:=(ok.drop (i+1)).sum_nn;have:=okZ.split (E:=E) (i+1);let⟨h3,e_h3,F_h3,o_h3⟩:=aq F.wf [ZX 0,ZY 0,.str [],.nils,ZZ 0,.bool false];simp only[evs,seval,Z,g9,g8,(oM:(i:Int)<E.length),p1,p3,<-e_h3];refine ai (c':=e.cells) F_h3.wf o_h3 rfl (iC ((ie e em).fr F)) rfl ?_;rintro h4 o4 F4 n4;have ac:Fr [] K h4:=F_h3.fresh F4 F.wf (RW _);have l4:ab h4 K.next 4=some (ZZ e.b):=o4.ld1 4;simp(disch:=omega) only[evs,seval,ah,Z,g3,l4,(oM:max e.b 0=e.b),eq_false (oM:¬4611686018427387904-((E.take i).map Ent.b).sum<e.b)];refine rqn ⟨E.length-(i+1),oM,F.then ac,i+1,iS,iX,iX,(by rw[ts];simp),oM,rfl⟩;rw[Sf oM]at g3;simp only[evs,seval,Z,g9,g3,(oM:¬(i:Int)<E.length)];exact F
theorem uV{h:Heap}{E:List Ent}(w:WF h)(re:Recs Ent.cells 6 h vE E)(K:∀e∈E,ItmH h e.x)(hE:E.length<=4096)(ok:okZ E)(Z:(E.map Ent.b).sum<=4611686018427387904):
 ao go 122 [.agg [vE]] h fun u h'=>u=ZZ 0/\Fr [] h h':=by
 have v1:vE.one=true:=TI re;let⟨h1,e_h1,F_h1,o_h1⟩:=aq w [vE];have x1:aj h1 h.next 0 1=some [vE]:=by rw[o_h1.ld];rfl
 refine ag ?_;simp only[evs,seval,<-e_h1,x1];refine aa (CX F_h1.wf (re.fr F_h1) (fun e m=>(K e m).fr F_h1) hE ok Z) ?_;rintro _ h2 ⟨rfl,F2⟩;simp only[evs,seval,eq_false (oM:¬4611686018427387904<(E.map Ent.b).sum)];exact F_h1.then F2
theorem LOk.sum{h:Heap}{E:List Ent}(o:LOk Ks h E):(E.map Ent.b).sum<=40000:=by
 have:=jT (L:=E.map Ent.b) (fun x m=>by
  obtain⟨e,Z,rfl⟩:=SX.1 m;cases K:e.kn;rw[o.b e Z K];exact o.base e Z;exact o.c e Z K)
 have hl:=o.l;simp at this;omega
theorem pN{h:Heap}{E:List Ent}(w:WF h)(rk:Recs Knd.cells 9 h vK Ks)(kh:∀q∈Ks,KndH h q)(re:Recs Ent.cells 6 h vE E)(o:LOk Ks h E):
 ao go 63 [.agg [vK,ZZ 12],.agg [vE]] h fun u h'=>u=ZZ 0/\Fr [] h h':=by
 have v1:vK.one=true:=TI rk;have v2:vE.one=true:=TI re;have hl:=o.l;have k3:=o.r.2.1;let⟨h1,e_h1,F_h1,o_h1⟩:=aq w [vK,ZZ 12];let⟨h2,e_h2,F_h2,o_h2⟩:=aq F_h1.wf [vE];have n1:=hnx e_h1;have n2:=hnx e_h2;have a0:=F_h1.then F_h2;have c0:aj h2 h.next 0 2=some [vK,ZZ 12]:=by rw[(F_h2.get o_h1).ld];rfl
 refine ag ?_;simp only[evs,seval,<-e_h1,<-e_h2,c0];refine aa (xR F_h2.wf (TK rk a0) (fun q m=>(kh q m).fr a0) oM) ?_;rintro _ h3 ⟨rfl,F3⟩;rw[o.r.1];have kk:∀{H},Fr [] h3 H->aj H h.next 0 2=some [vK,ZZ 12]:=fun f=>by rw[(f.get (F3.get (F_h2.get o_h1))).ld];rfl
 have k0:∀{H},Fr [] h3 H->ab H h.next 0=some vK:=fun f=>(f.get (F3.get (F_h2.get o_h1))).ld1 0;have ee:∀{H},Fr [] h3 H->ab H h1.next 0=some vE:=fun f=>(f.get (F3.get o_h2)).ld1 0;have e1:∀{H},Fr [] h3 H->aj H h1.next 0 1=some [vE]:=fun f=>by rw[(f.get (F3.get o_h2)).ld];rfl
 have e3:=ee (Sn F3.wf);have aH:=a0.then F3;simp only[evs,seval,e3,re.len,(oM:¬(1024:Int)<E.length)];obtain⟨h4,Z⟩:∃h4,h4=kw h3:=⟨_,rfl⟩;have ak:Fr [] h3 h4:=Z▸Fr.hnew F3.wf _;have s4:Seen h4 h3.next []:=⟨[],0,by rw[Z];exact ku _ _,rfl,iS⟩;have e4:=ee ak;simp only[evs,seval,EB,<-Z,e4,re.len];refine aC (fun n env hh=>Fr [] h3 hh/\∃(i:Nat),env.get 25=some (ZZ i)/\env.get 24=some (ZZ E.length)/\env.get 23=some vE/\env.get 2=some (.ptr h.next 0)/\env.get 3=some (.ptr h1.next 0)/\env.get 6=some (.map h3.next)/\
  i<=E.length/\Seen hh h3.next ((E.take i).map fun e=>e.x.key)/\n=E.length-i) E.length oM ?_ ?_
 exact⟨ak,0,iS,iS,iS,iS,iS,iS,oM,s4,rfl⟩;rintro n env hh ⟨F,i,ac,a1,a8,g2,g3,g6,hi,S,rfl⟩;have F0:=aH.then F;by_cases c:i<E.length;let⟨bi,oi,e,p1,_,p3,p4⟩:=(re.fr F0).ix aR .i64 (i:Int) oM oM;rw[RX]at p4;have em:=RZ p4;let⟨ax,nz,oi,re0⟩:=o.h e em;have an:okI e.x Ks.length=true:=by rw[k3];exact oi
 have ht:e.x.type<Ks.length:=by simp only[okI,RU,decide_eq_true_eq]at an;exact an.2.1
 let⟨h5,e_h5,F_h5,o_h5⟩:=aq F.wf [ZX 0,ZY 0,.str [],.nils,ZZ 0,.bool false];simp only[evs,seval,ac,a1,a8,(oM:(i:Int)<E.length),p1,p3,<-e_h5];refine ai (c':=e.cells) F_h5.wf o_h5 rfl (iC (ax.fr F0)) rfl ?_;rintro h6 o6 F6 n6;have af:Fr [] hh h6:=F_h5.fresh F6 F.wf (RW _);have a2:=F.then af;have i4:∀{H},Own H hh.next e.cells->aj H hh.next 0 4=some e.x.cells:=fun o=>by rw[o.ld];rfl
 have i0:∀{H},Own H hh.next e.cells->ab H hh.next 0=some (ZX (e.x.key:Int)):=fun o=>o.ld1 0;have a4:=i4 o6;have a9:=k0 a2;simp only[evs,seval,g2,a4,a9,(VV rk)];apply aa (oJ af.wf (ax.fr (F0.then af)) oM);rintro _ h7 ⟨rfl,F7⟩;rw[an];have o7:=F7.get o6;have ba:=i0 o7;have S7:=(S.fr af).fr F7;have nk:e.x.key∉(E.take i).map fun e=>e.x.key:=by
  intro m;have nd:=o.n;have:E.map (fun e=>e.x.key)=(E.take i).map (fun e=>e.x.key)++e.x.key::(E.drop (i+1)).map (fun e=>e.x.key):=by rw[<-Td (f:=fun e:Ent=>e.x.key),<-aK p4,<-SF,SB]
  rw[this,Uq]at nd;exact nd.2.2 _ m _ iS rfl
 simp only[evs,seval,g6,ba,yu,kQ,nM S7,decide_eq_false nk,Bj,pj];apply qG F7.wf S7 nk;intro h8 S8 B8 n8;have K:Fr [] h3 h8:=VX F3.wf (a2.then F7) B8 iS (RW _);have az:=aH.then K;have o8:=B8.own _ _ iS o7;have a7:=i4 o8;have a5:=kk K;simp only[evs,seval,g2,a7,a5];apply aa (rY K.wf (TK rk az) (fun q m=>(kh q m).fr az) (ax.fr az) ht);rintro _ h9 ⟨cs,rfl,F9,on,cl,_⟩;let⟨ha,e_ha,F_ha,o_ha⟩:=aq F9.wf [ZY 0,.str [],.str [],.nils,.str [],.nils];simp only[evs,<-e_ha];refine ai (c':=cs) F_ha.wf o_ha cl on (by
  rw[bQ _ _ _ (by show 0+cs.length<=6;omega)];simp[V.cells];omega) ?_
 rintro hb ob Fb nb;have ar:Fr [] h8 hb:=(F9.then F_ha).fresh Fb K.wf F9.next;have ae:=K.then ar;have ay:=ar.get o8;have b4:ab hb hh.next 4=some (ZZ e.b):=ay.ld1 4;have b5:ab hb hh.next 5=some (.bool e.kn):=ay.ld1 5;have Sb:=S8.fr ar;have es:(E.take (i+1)).map (fun e=>e.x.key)=(E.take i).map (fun e=>e.x.key)++[e.x.key]:=by rw[Sr,p4];simp
 simp only[evs,seval,eff,re0,b4];apply aa (u7 e.b);rintro _ _ ⟨rfl,rfl⟩;have bc:okB e.b=true:=by have:=o.okZ e em;simp only[okB,RU,decide_eq_true_eq];exact this
 cases ek:e.kn with
 |true=>rw[ek]at b5;simp(disch:=omega) only[evs,seval,DF,eff,ah,ac,b4,b5,bc];refine rqn ⟨E.length-(i+1),oM,ae,i+1,iS,iX,iX,iX,iX,iX,oM,by rw[es];exact Sb,rfl⟩
 |false=>
  rw[ek]at b5;have a6:=k0 ae;have b1:ab hb hh.next 1=some (ZY (e.x.type:Int)):=ay.ld1 1;let⟨bk,ok',q,q1,q2,q3,q4⟩:=(TK rk (aH.then ae)).ix eM .u8 (e.x.type:Int) oM oM;rw[RX]at q4;have q6:ab hb bk (ok'+6)=some (ZZ q.base):=q2 6 oM;have qb:e.b=q.base:=by rw[o.b e em ek];simp[aF,q4]
  have a3:okB q.base=true:=by grind
  simp(disch:=omega) only[evs,seval,DF,eff,ah,ac,g2,b4,b5,a3,a6,b1,q1,q6,qb];refine rqn ⟨E.length-(i+1),oM,ae,i+1,iS,iX,iX,iX,iX,iX,oM,by rw[es];exact Sb,rfl⟩
 have l1:=e1 F;simp only[evs,seval,ac,a1,g3,(oM:¬(i:Int)<E.length),l1];have os:=o.sum;apply aa (uV F.wf (re.fr F0) (fun e m=>((o.h e m).1).fr F0) oM o.okZ oM);rintro _ h5 ⟨rfl,F5⟩;simp only[evs,seval];exact F0.then F5
structure Drawn(N M:Nat)(h:Heap)(Ks:List Knd)(vE:V)(X:List Itm)(E:List Ent):Prop where
 g:Gs h N 6 vE (E.flatMap Ent.cells)
 l:∀z∈vb vE,z<M
 i:∀e∈E,ItmG N h e.x
 il:∀e∈E,∀z∈vb e.x.vm,z<M
 o:∀h',(∀e∈E,ItmH h' e.x)->LOk Ks h' E
 n:E.length<=12
theorem Drawn.keep{N M:Nat}{h:Heap}{X:List Itm}{E:List Ent}(d:Drawn N M h Ks vE X E)(f:Fr Z h h')(l:∀z∈Z,z<N\/M<=z):Drawn N M h' Ks vE X E:=
 ⟨d.g.dj f (fun z m c=>by have:=d.l z c;have:=d.g.vb z c;have:=l z m;omega),d.l,fun e m=>(d.i e m).keep f (fun z mz c=>by have:=d.il e m z c;have:=(d.i e m).g.vb z c;have:=l z mz;omega),d.il,d.o,d.n⟩
theorem Drawn.H{N M:Nat}{h:Heap}{X:List Itm}{E:List Ent}(d:Drawn N M h Ks vE X E):∀e∈E,ItmH h e.x:=fun e m=>(d.i e m).H
theorem Drawn.lok{N M:Nat}{h:Heap}{X:List Itm}{E:List Ent}(d:Drawn N M h Ks vE X E):LOk Ks h E:=d.o h d.H
theorem Drawn.rs{N M:Nat}{h:Heap}{X:List Itm}{E:List Ent}(d:Drawn N M h Ks vE X E):Recs Ent.cells 6 h vE E:=VW (n:=E.length) d.g (aJ aR _) oM
theorem FO{h:Heap}{vI vH:V}{kb:Nat}{L:List (Nat×Nat×Nat×Nat)}{H:List Nat}(w:WF h)(a:ARecs q4 4 h vI L)(hb:∀q∈L,q.1<256/\q.2.1<256/\q.2.2.1<256/\q.2.2.2<256)
 (aH:ARecs b8 1 h vH H) (hH:∀n∈H,n<256) (hk:kb<256):
 ao go 16 [.agg [vI,vH,ZY (kb:Int)]] h fun u h'=>Fr [] h h'/\∃vK Ks X vE E,u=.tup [.agg [vK,ZZ 12],.agg [vE]]/\Recs Knd.cells 9 h' vK Ks/\(∀q∈Ks,KndH h' q)/\Drawn h.next h'.next h' Ks vE X E:=by
 apply Uu (Kd w a hb aH hH hk);rintro _ h' ⟨F,vK,Ks,vX,X,vE,E,rfl,rk,kh,gk,K,lk,il,G,Z,nd,el⟩;refine⟨F,vK,Ks,X,vE,E,rfl,rk,kh,G,G.lt F.wf,fun e m=>il.i _ (Z e m).m,fun e m=>(il.i _ (Z e m).m).g.lt F.wf,fun h2 hh=>⟨fun e m=>?_,fun e m=>(Z e m).b,fun e m=>(Z e m).c,nd,SD el oM,K,lk,gk⟩,el⟩;have g:=il.i _ (Z e m).m;exact⟨hh e m,Sl.nz (VW (n:=e.x.marks.length) g.g (by rw[wI];exact(Uh _).symm) oM),(Z e m).o,(Z e m).r⟩
theorem Br(h:Heap):ao go 15 [] h fun u h'=>u=.bool true/\h=h':=
 ⟨.bool true,h,LF H8 rfl (by unfold lov;rw[if_pos ⟨rfl,rfl⟩]),rfl,rfl⟩
open Go.Ev.St
set_option maxRecDepth 4000
abbrev zz:Str:=[122,122]
theorem Eb{L M:List Str}(e:L.flatMap sS=M.flatMap sS):L.length=M.length:=by have:=congrArg List.length e;rw[aJ fG,aJ fG]at this;omega
theorem CpO.lenS{N:Nat}{h:Heap}{v:V}{L:List Str}(a:CpO N h v L):aP .lenS [v]=some (ZZ L.length):=a.rs.len
theorem CpO.capS{N:Nat}{h:Heap}{v:V}{L:List Str}(a:CpO N h v L):aP .capS [v]=some (ZZ L.length):=by obtain⟨rfl,rfl|⟨b,rfl,_⟩⟩|⟨b,rfl,_⟩:=a<;>rfl
theorem CpO.wr{N b:Nat}{h:Heap}{v:V}{L M K:List Str}(a:CpO N h v L)(f:Fr [b] h h')(o:Own h b (M.flatMap sS))(o':Own h' b (K.flatMap sS))(e:K.length=M.length):∃L',L'.length=L.length/\CpO N h' v L':=by obtain⟨rfl,rfl|⟨b',rfl,Z,ob⟩⟩|⟨b',rfl,Z,ob⟩:=a;exact⟨[],rfl,.inl ⟨rfl,.inl rfl⟩⟩;by_cases c:b'=b;subst c;have q:M.flatMap sS=([]:List Str).flatMap sS:=o.uniq ob;have q2:=Eb q;have:K=[]:=SC.1 (by rw[e,q2];rfl);subst this;exact⟨[],rfl,.inl ⟨rfl,.inr ⟨_,rfl,Z,o'⟩⟩⟩;exact⟨[],rfl,.inl ⟨rfl,.inr ⟨_,rfl,Z,f.own _ _ (eV c) ob⟩⟩⟩;by_cases c:b'=b;subst c;have q2:=Eb (o.uniq ob);exact⟨K,oM,.inr ⟨_,by rw[e,q2],Z,o'⟩⟩;exact⟨L,rfl,.inr ⟨_,rfl,Z,f.own _ _ (eV c) ob⟩⟩
theorem CpO.ix{N:Nat}{h:Heap}{v:V}{L:List Str}{i:Nat}(a:CpO N h v L)(Z:i<L.length):∃b,N<=b/\Own h b (L.flatMap sS)/\aP (.ixs 1) [v,ZZ (i:Int)]=some (.ptr b i)/\bu (L.flatMap sS) i [.str zz]=some ((L.set i zz).flatMap sS):=by have p:L[i]? =some L[i]:=Sm Z;have u:=vj (y:=zz) (o:=0) (vs:=[.str zz]) fG L i L[i] p rfl;rw[Uh,Um]at u;obtain⟨rfl,_⟩|⟨b,rfl,K,o⟩:=a;simp at Z;refine⟨b,K,o,?_,u⟩;rw[gw _ _ _ _ _ _ _ oM oM];simp
section
variable {env : T V} {h h7 : Heap} {N : Nat} (w7 : WF h7) (hN : h7.next <= N)
include w7 hN
def LsW(N bo:Nat)(h:Heap)(Z Z':List Ent):Prop:=bo<N/\Own h bo (Z'.flatMap Ent.cells)/\Z'.map Ent.x=Z.map Ent.x/\∀z∈Z,∃L',L'.length=z.x.marks.length/\CpO N h z.x.vm L'
end
open Go.Ev.St
set_option maxRecDepth 4000
section
variable {env : T V} {h h7 : Heap} {N : Nat} (w7 : WF h7)
theorem LsW.wr{bo b:Nat}{h:Heap}{Z Z':List Ent}{M K:List Str}(a:LsW N bo h Z Z')(hb:N<=b)(f:Fr [b] h h')(o:Own h b (M.flatMap sS))(o':Own h' b (K.flatMap sS))(e:K.length=M.length):LsW N bo h' Z Z':=by let⟨l,ob,ex,cs⟩:=a;refine⟨l,f.own _ _ oO ob,ex,fun z m=>?_⟩;let⟨L,e1,c1⟩:=cs z m;let⟨L',e2,c2⟩:=c1.wr f o o' e;exact⟨L',oM,c2⟩
include w7
end
open Go.Ev.St
set_option maxRecDepth 4000
theorem wM(k t:Nat)(x:Str)(m:List Str)(v u:V):∀p:PT,cE ⟨k,t,x,m,v⟩ p=cE ⟨k,t,x,m,u⟩ p
 |.nil=>rfl
 |.cons _ _ _ _ _ _ _ s n=>by simp only[cE,wM k t x m v u s,wM k t x m v u n];rfl
theorem Aa{y z:Itm}(e:y.val=z.val):y=⟨z.key,z.type,z.text,z.marks,y.vm⟩:=by let⟨e1,e2,e3,e4⟩:=Itm.val_eq e;let⟨a,b,c,d,v⟩:=y;simp only at e1 e2 e3 e4;subst e1 e2 e3 e4;rfl
theorem EP{y z:Itm}(e:y.val=z.val)(p:PT):cE y p=cE z p:=by rw[Aa e];exact wM _ _ _ _ _ _ p
theorem IU{y z:Itm}(e:y.val=z.val):att y=att z:=by rw[Aa e];rfl
theorem Em{y z:Itm}(e:y.val=z.val):bO Ks cap y=bO Ks cap z:=by
 unfold bO;let⟨_,e2,_⟩:=Itm.val_eq e;rw[e2];split;unfold fu;rw[EP e,IU e];have:iH y=iH z:=by rw[Aa e];rfl
 rw[this];rfl
end Go.Ev.Lay
