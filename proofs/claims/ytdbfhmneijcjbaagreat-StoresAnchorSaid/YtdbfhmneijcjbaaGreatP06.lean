/- An evaluator of the program, and contracts over it: LayA to LayP. -/
import Derived.Test.YtdbfhmneijcjbaaGreatP04
import Derived.Test.YtdbfhmneijcjbaaGreatP05
set_option linter.unusedSimpArgs false
set_option linter.unusedVariables false
set_option linter.constructorNameAsVariable false
set_option linter.unnecessarySimpa false
set_option maxRecDepth 4000
namespace Go.Ev.Lay
variable{h':b_}{pl pr:Option Nat}{bl bs br:Nat}{α:Type}{size:Int}{kn:Bool}{ks:List Bool}
inductive Tr where
 |D_
 |X (l:Tr) (s:Int) (r:Tr)
namespace Tr
def j_:Tr->List Int
 |D_=>[]
 |X l s r=>l.j_++s::r.j_
def U1:Tr->Int
 |D_=>0
 |X l _ r=>l.U1+r.U1+1
def b?:Tr->Int
 |D_=>0
 |X l s r=>l.b?+s+r.b?
def T7:Tr->Int
 |D_=>0
 |X l _ r=>max l.T7 r.T7+1
theorem Q7:∀t:Tr,t.U1=t.j_.length
 |D_=>rfl
 |X l s r=>by simp[U1,j_,Q7 l,Q7 r];omega
theorem Zu:∀t:Tr,t.b?=t.j_.sum
 |D_=>rfl
 |X l s r=>by simp[b?,j_,Zu l,Zu r];omega
theorem U2:∀t:Tr,0≤t.T7
 |D_=>by simp[T7]
 |X l s r=>by have:=U2 l;have:=U2 r;simp only[T7];omega
theorem V7:∀t:Tr,t.T7≤t.U1
 |D_=>by simp[T7,U1]
 |X l s r=>by have a:=V7 l;have b:=V7 r;have c:=Q7 l;have d:=Q7 r;simp only[T7,U1];omega
theorem W5(t:Tr):0<=t.U1:=by rw[Q7];omega
end Tr
def At(h:b_):Tr->Option Nat->Prop
 |.D_,p=>p=none
 |.X l s r,p=>∃b pl pr,p=some b/\f_ h b [pv pl,pv pr,ZZ s,ZZ (Tr.X l s r).U1, ZZ (Tr.X l s r).b?, ZZ (Tr.X l s r).T7]/\At h l pl/\At h r pr
theorem At.fr{h:b_}(f:Fr [] h h'):∀{t:Tr}{p:Option Nat},At h t p->At h' t p
 |.D_,_,a=>a
 |.X l s r,_,⟨b,pl,pr,e,o,al,ar⟩=>⟨b,pl,pr,e,f.c_ o,At.fr f al,At.fr f ar⟩
def P2(l:List Int):Prop:=(∀x∈l,0<=x)/\l.sum<=4611686018427387904/\(l.length:Int)<=1000000
theorem Zv:∀{l:List Int},(∀x∈l,0≤x)→0≤l.sum
 |[],_=>by simp
 |x::l,h=>by have:=Zv (l:=l) fun y hy=>h y iX;have:=h x iS;simp;omega
theorem P2.aj{a b:List Int}(f:P2 (a++b)):P2 a:=by let⟨p,q,r⟩:=f;have K:0<=b.sum:=Zv fun x Z=>p x iX;refine⟨fun x Z=>p x iX,?_,?_⟩;grind;grind
theorem P2.V{a b:List Int}(f:P2 (a++b)):P2 b:=by let⟨p,q,r⟩:=f;have K:0<=a.sum:=Zv fun x Z=>p x iX;refine⟨fun x Z=>p x iX,?_,?_⟩;grind;grind
theorem P2.nn{l:List Int}(f:P2 l):0<=l.sum:=Zv f.1
theorem dk{h:b_}{t:Tr}{p:Option Nat}(a:At h t p):av go 266 [pv p] h fun v h'=>v=ZZ t.T7/\h'=h:=by
 refine ai ?_;cases t with
 |D_=>have a:p=none:=a;subst a;simp[a_,Tr.T7]
 |X l s r=>obtain⟨b,pl,pr,rfl,o,_⟩:=a;simp[a_,aU,o.o]
theorem iP{h:b_}{t:Tr}{p:Option Nat}(a:At h t p):av go 243 [pv p] h fun v h'=>v=ZZ t.U1/\h'=h:=by
 refine ai ?_;cases t with
 |D_=>have a:p=none:=a;subst a;simp[a_,Tr.U1]
 |X l s r=>obtain⟨b,pl,pr,rfl,o,_⟩:=a;simp[a_,aU,o.o]
theorem pA{h:b_}{t:Tr}{p:Option Nat}(a:At h t p):av go 111 [pv p] h fun v h'=>v=ZZ t.b?/\h'=h:=by
 refine ai ?_;cases t with
 |D_=>have a:p=none:=a;subst a;simp[a_,Tr.b?]
 |X l s r=>obtain⟨b,pl,pr,rfl,o,_⟩:=a;simp[a_,aU,o.o]
theorem dT{h:b_}{l r:Tr}{s:Int}(w:WF h)(al:At h l pl)(Z:At h r pr)(f:P2 (l.j_++s::r.j_)):
 av go 268 [pv pl,ZZ s,pv pr] h fun v h'=>∃b,v=pv (some b)/\At h' (.X l s r) (some b)/\Fr [] h h':=by
 have l1:=Tr.Q7 l;have l2:=Tr.Zu l;have l3:=Tr.U2 l;have l4:=Tr.V7 l;have r1:=Tr.Q7 r;have K:=Tr.Zu r;have r3:=Tr.U2 r;have r4:=Tr.V7 r;have fl:=f.aj.nn;have fr:=P2.nn (P2.V (a:=l.j_++[s]) (b:=r.j_) (eV f));have hs:0<=s:=f.1 s iS;let⟨_,f2,f3⟩:=f;simp only[XF,Xb,Vv,Vy]at f2 f3;rw[<-l2]at fl f2;rw[<-K]at fr f2;refine ai ?_;simp[a_];refine aa (iP al) ?_;rintro _ _ ⟨rfl,rfl⟩;simp[a_];apply aa (iP Z);rintro _ _ ⟨rfl,rfl⟩;simp(disch:=omega)[a_,ah];apply aa (pA al);rintro _ _ ⟨rfl,rfl⟩;simp(disch:=omega)[a_,ah];apply aa (pA Z);rintro _ _ ⟨rfl,rfl⟩;simp(disch:=omega)[a_,ah];apply aa (dk al);rintro _ _ ⟨rfl,rfl⟩;simp[a_];apply aa (dk Z);rintro _ _ ⟨rfl,rfl⟩;simp(disch:=omega)[a_,ah];refine⟨_,rfl,?_,VL w _⟩;exact⟨_,pl,pr,rfl,by simpa only[Tr.U1,Tr.b?,Tr.T7]using Wi w _,al.fr (VL w _),Z.fr (VL w _)⟩
theorem KS{h:b_}{l r:Tr}{s:Int}(w:WF h)(al:At h l pl)(Z:At h r pr)(f:P2 (l.j_++s::r.j_))
 (ol:f_ h bl [pv pl]) (os:f_ h bs [ZZ s]) (or:f_ h br [pv pr]):
 av go 287 [.u bl 0,.u bs 0,.u br 0] h fun v h'=>∃t p,v=pv p/\At h' t p/\t.j_=l.j_++s::r.j_/\Fr [] h h':=by
 refine ai ?_;simp[a_,ol.o,os.o,or.o];refine aa (dT w al Z f) ?_;rintro _ h' ⟨b,rfl,a,fr⟩;simp[a_];exact⟨_,_,rfl,a,rfl,fr⟩
theorem P2.p_{x:Int}{l:List Int}(f:P2 (x::l)):P2 l:=P2.V (a:=[x]) (eV f)
theorem KR{h:b_}{l r:Tr}{s:Int}(w:WF h)(al:At h l pl)(ar:At h r pr)(f:P2 (l.j_++s::r.j_))(ht:0<r.T7)
 (ol:f_ h bl [pv pl]) (os:f_ h bs [ZZ s]) (or:f_ h br [pv pr]):
 av go 288 [.u br 0,.u bl 0,.u bs 0] h fun v h'=>∃t p,v=pv p/\At h' t p/\t.j_=l.j_++s::r.j_/\Fr [] h h':=by
 cases r with
 |D_=>simp[Tr.T7]at ht
 |X rl rs rr=>
  obtain⟨b,a0,ax,rfl,o,ae,ac⟩:=ar;have f1:P2 ((l.j_++s::rl.j_)++rs::rr.j_):=by simpa[Tr.j_]using f
  refine ai ?_;simp[a_,g_,or.o,aU,o.o];refine aa (dk ae) ?_;rintro _ _ ⟨rfl,rfl⟩;simp[a_,g_];simp[a_,g_,or.o,aU,o.o];apply aa (dk ac);rintro _ _ ⟨rfl,rfl⟩;simp[a_,DF,g_];simp[a_,g_,ol.o,os.o,or.o,aU,o.o];split;rename_i aj;cases rl with
  |D_=>have:=Tr.U2 rr;simp[Tr.T7]at aj;omega
  |X ml ms mr=>
   obtain⟨b',aH,ay,rfl,o',ak,af⟩:=ae;have f2:P2 ((l.j_++s::ml.j_)++ms::(mr.j_++rs::rr.j_)):=by simpa[Tr.j_]using f
   simp[a_,g_,aU,o'.o];apply aa (dT w al ak f2.aj);rintro _ h1 ⟨b1,rfl,a1,Z⟩;simp[a_,g_,(Z.c_ or).o,aU,(Z.c_ o).o,(Z.c_ o').o];apply aa (dT Z.r (af.fr Z) (ac.fr Z) f2.V.p_);rintro _ h2 ⟨b2,rfl,a2,K⟩;simp[a_,g_,aU];apply aa (dT K.r (a1.fr K) a2 f2);rintro _ h3 ⟨b3,rfl,a3,an⟩;have ab:=Z.c K;simp[a_,DF,g_,ol.o,os.o,or.o,o.o,o'.o,(Z.c_ or).o,aU,(Z.c_ o).o,(Z.c_ o').o,(ab.c_ o').o];exact⟨_,_,(aU _).symm,a3,by simp[Tr.j_],ab.c an⟩
  apply aa (dT w al ae f1.aj);rintro _ h1 ⟨b1,rfl,a1,Z⟩;simp[a_,g_,(Z.c_ or).o,aU,(Z.c_ o).o];apply aa (dT Z.r a1 (ac.fr Z) f1);rintro _ h2 ⟨b2,rfl,a2,K⟩;simp[a_,DF,g_,ol.o,os.o,or.o,o.o,(Z.c_ or).o,aU,(Z.c_ o).o];exact⟨_,_,(aU _).symm,a2,by simp[Tr.j_],Z.c K⟩
theorem KO{h:b_}{l r:Tr}{s:Int}(w:WF h)(al:At h l pl)(ar:At h r pr)(f:P2 (l.j_++s::r.j_))(ht:0<l.T7)
 (ol:f_ h bl [pv pl]) (os:f_ h bs [ZZ s]) (or:f_ h br [pv pr]):
 av go 289 [.u bl 0,.u bs 0,.u br 0] h fun v h'=>∃t p,v=pv p/\At h' t p/\t.j_=l.j_++s::r.j_/\Fr [] h h':=by
 cases l with
 |D_=>simp[Tr.T7]at ht
 |X ll ls lr=>
  obtain⟨b,aH,ax,rfl,o,all,ac⟩:=al;have f1:P2 (ll.j_++ls::(lr.j_++s::r.j_)):=by simpa[Tr.j_]using f
  refine ai ?_;simp[a_,g_,ol.o,aU,o.o];refine aa (dk ac) ?_;rintro _ _ ⟨rfl,rfl⟩;simp[a_,g_];simp[a_,g_,ol.o,aU,o.o];apply aa (dk all);rintro _ _ ⟨rfl,rfl⟩;simp[a_,DF,g_];simp[a_,g_,ol.o,os.o,or.o,aU,o.o];split;rename_i af;cases lr with
  |D_=>have:=Tr.U2 ll;simp[Tr.T7]at af;omega
  |X ml ms mr=>
   obtain⟨b',ay,an,rfl,o',aj,ae⟩:=ac;have f2:P2 ((ll.j_++ls::ml.j_)++ms::(mr.j_++s::r.j_)):=by simpa[Tr.j_]using f
   simp[a_,g_,aU,o'.o];apply aa (dT w all aj f2.aj);rintro _ h1 ⟨b1,rfl,a1,Z⟩;simp[a_,g_,(Z.c_ os).o,(Z.c_ or).o,aU,(Z.c_ o').o];apply aa (dT Z.r (ae.fr Z) (ar.fr Z) f2.V.p_);rintro _ h2 ⟨b2,rfl,a2,K⟩;simp[a_,g_,aU];apply aa (dT K.r (a1.fr K) a2 f2);rintro _ h3 ⟨b3,rfl,a3,ak⟩;have ab:=Z.c K;simp[a_,DF,g_,ol.o,os.o,or.o,o.o,o'.o,(Z.c_ os).o,(Z.c_ or).o,aU,(Z.c_ o').o,(ab.c_ o').o];exact⟨_,_,(aU _).symm,a3,by simp[Tr.j_],ab.c ak⟩
  apply aa (dT w ac ar f1.V.p_);rintro _ h1 ⟨b1,rfl,a1,Z⟩;simp[a_,g_,aU];apply aa (dT Z.r (all.fr Z) a1 f1);rintro _ h2 ⟨b2,rfl,a2,K⟩;simp[a_,DF,g_,ol.o,os.o,or.o,o.o,(Z.c_ ol).o,aU,(Z.c_ o).o];exact⟨_,_,(aU _).symm,a2,by simp[Tr.j_],Z.c K⟩
def Nn(h:b_)(l:List Int)(v:V):Prop:=∃t p,v=pv p/\At h t p/\t.j_=l
theorem sq{h:b_}{l r:Tr}{s:Int}(w:WF h)(al:At h l pl)(ar:At h r pr)(f:P2 (l.j_++s::r.j_)):
 av go 267 [pv pl,ZZ s,pv pr] h fun v h'=>∃t p,v=pv p/\At h' t p/\t.j_=l.j_++s::r.j_/\Fr [] h h':=by
 have l1:=Tr.Q7 l;have l3:=Tr.U2 l;have l4:=Tr.V7 l;have r1:=Tr.Q7 r;have r3:=Tr.U2 r;have r4:=Tr.V7 r;have f3:=f.2.2;simp only[Vv,Vy]at f3;obtain⟨h1,e1⟩:∃h1,h1=k_ h [pv pl]:=⟨_,rfl⟩;obtain⟨h2,e2⟩:∃h2,h2=k_ h1 [ZZ s]:=⟨_,rfl⟩;obtain⟨h3,e3⟩:∃h3,h3=k_ h2 [pv pr]:=⟨_,rfl⟩;have F1:Fr [] h h1:=e1▸VL w _;have F2:Fr [] h1 h2:=e2▸VL F1.r _;have F3:Fr [] h2 h3:=e3▸VL F2.r _;have ol:f_ h3 h.i [pv pl]:=F3.c_ (F2.c_ (e1▸Wi w _));have os:f_ h3 h1.i [ZZ s]:=F3.c_ (e2▸Wi F1.r _);have or:f_ h3 h2.i [pv pr]:=e3▸Wi F2.r _;have F:=(F1.c F2).c F3;have Z:=al.fr F;have K:=ar.fr F;refine ai ?_;simp[a_,g_,<-e1,<-e2,<-e3,or.o];refine aa (dk K) ?_;rintro _ _ ⟨rfl,hh⟩;simp[a_,g_];subst hh;simp[a_,g_,ol.o];apply aa (dk Z);rintro _ _ ⟨rfl,hh⟩;simp(disch:=omega)[a_,DF,g_,ah];subst hh;simp[a_,ol.o,or.o];split;rename_i hd;apply aa (KR F.r Z K f oM ol os or);rintro _ h' ⟨t,p,rfl,a,e,fr⟩;simp[a_];exact⟨_,_,rfl,a,e,F.c fr⟩;split;apply aa (KO F.r Z K f oM ol os or);rintro _ h' ⟨t,p,rfl,a,e,fr⟩;simp[a_];exact⟨_,_,rfl,a,e,F.c fr⟩;apply aa (KS F.r Z K f ol os or);rintro _ h' ⟨t,p,rfl,a,e,fr⟩;simp[a_];exact⟨_,_,rfl,a,e,F.c fr⟩
theorem B4:∀(n:Nat){h:b_}{l r:Tr}{s:Int}{pl pr:Option Nat},(l.U1+r.U1).toNat<=n->WF h->At h l pl->At h r pr->P2 (l.j_++s::r.j_)->
 av go 234 [pv pl,ZZ s,pv pr] h fun v h'=>∃t p,v=pv p/\At h' t p/\t.j_=l.j_++s::r.j_/\Fr [] h h':=by
 intro n;induction n with
 |zero=>
  intro h l r s pl pr hn w al K f;cases l with
  |X ll ls lr=>have a:=Tr.W5 ll;have b:=Tr.W5 lr;have c:=Tr.W5 r;simp only[Tr.U1]at hn;omega
  |D_=>cases r with
   |X ll ls lr=>have a:=Tr.W5 ll;have b:=Tr.W5 lr;simp only[Tr.U1]at hn;omega
   |D_=>refine ai ?_;simp[a_];refine aa (dk al) ?_;rintro _ _ ⟨rfl,rfl⟩;simp[a_];apply aa (dk K);rintro _ _ ⟨rfl,rfl⟩;simp[a_,g_];simp(disch:=omega) only[ah,Tr.T7];simp;apply aa (dk K);rintro _ _ ⟨rfl,rfl⟩;simp[a_];apply aa (dk al);rintro _ _ ⟨rfl,rfl⟩;simp[a_,g_];simp(disch:=omega) only[ah,Tr.T7];simp;apply aa (dT w al K f);rintro _ h' ⟨b,rfl,a,fr⟩;simp[a_];exact⟨_,_,rfl,a,rfl,fr⟩
 |succ n ih=>
  intro h l r s pl pr hn w al K f;have l1:=Tr.Q7 l;have l3:=Tr.U2 l;have l4:=Tr.V7 l;have r1:=Tr.Q7 r;have r3:=Tr.U2 r;have r4:=Tr.V7 r;have f3:=f.2.2;simp only[Vv,Vy]at f3;refine ai ?_;simp[a_];refine aa (dk al) ?_;rintro _ _ ⟨rfl,rfl⟩;simp[a_];apply aa (dk K);rintro _ _ ⟨rfl,rfl⟩;simp(disch:=omega)[a_,g_,ah];split;rename_i ac;cases l with
  |D_=>simp[Tr.T7]at ac;omega
  |X ll ls lr=>
   obtain⟨b,ay,an,rfl,o,all,af⟩:=al;have f1:P2 (ll.j_++ls::(lr.j_++s::r.j_)):=by simpa[Tr.j_]using f
   simp[a_,g_,aU,o.o];refine aa (ih (l:=lr) (r:=r) (by have a:=Tr.W5 ll;simp only[Tr.U1]at hn;omega) w af K f1.V.p_) ?_;rintro _ h1 ⟨t1,p1,rfl,a1,e1,Z⟩;simp[a_,g_];refine aa (sq Z.r (all.fr Z) a1 (by rw[e1];exact f1)) ?_;rintro _ h2 ⟨t2,p2,rfl,a2,e2,ab⟩;simp[a_,DF,g_,o.o,(Z.c_ o).o];exact⟨_,_,rfl,a2,by rw[e2,e1];simp[Tr.j_],Z.c ab⟩
  apply aa (dk K);rintro _ _ ⟨rfl,rfl⟩;simp[a_];apply aa (dk al);rintro _ _ ⟨rfl,rfl⟩;simp(disch:=omega)[a_,g_,ah];split;rename_i ac;cases r with
  |D_=>simp[Tr.T7]at ac;omega
  |X rl rs rr=>
   obtain⟨b,ax,ak,rfl,o,aj,ae⟩:=K;have f1:P2 ((l.j_++s::rl.j_)++rs::rr.j_):=by simpa[Tr.j_]using f
   simp[a_,g_,aU,o.o];refine aa (ih (l:=l) (r:=rl) (by have a:=Tr.W5 rr;simp only[Tr.U1]at hn;omega) w al aj f1.aj) ?_;rintro _ h1 ⟨t1,p1,rfl,a1,e1,Z⟩;simp[a_,g_,(Z.c_ o).o];refine aa (sq Z.r a1 (ae.fr Z) (by rw[e1];exact f1)) ?_;rintro _ h2 ⟨t2,p2,rfl,a2,e2,ab⟩;simp[a_,DF,g_,o.o,(Z.c_ o).o];exact⟨_,_,rfl,a2,by rw[e2,e1];simp[Tr.j_],Z.c ab⟩
  apply aa (dT w al K f);rintro _ h' ⟨b,rfl,a,fr⟩;simp[a_];exact⟨_,_,rfl,a,rfl,fr⟩
theorem mM{h:b_}{l r:Tr}{s:Int}(w:WF h)(al:At h l pl)(ar:At h r pr)(f:P2 (l.j_++s::r.j_)):
 av go 234 [pv pl,ZZ s,pv pr] h fun v h'=>∃t p,v=pv p/\At h' t p/\t.j_=l.j_++s::r.j_/\Fr [] h h':=
 B4 _ (Ve _) w al ar f
theorem P2.ar{l m:List Int}(f:P2 l)(h:m.Sublist l):P2 m:=by
 let⟨a,b,c⟩:=f;have K:∀{l m:List Int},m.Sublist l->(∀x∈l,0<=x)->m.sum<=l.sum:=by
  intro l m h;induction h with
  |slnil=>intro _;simp
  |cons x h ih=>intro a;have:=ih (fun y hy=>a y iX);have:=a x iS;simp;omega
  |cons_cons x h ih=>intro a;have:=ih (fun y hy=>a y iX);simp;omega
 exact⟨fun x Z=>a x (h.subset Z),by have:=K h a;omega,by have:=h.length_le;omega⟩
theorem Er(a b:List Int)(s:Int)(k:Nat):(a++s::b).take (a.length+1+k)=a++s::b.take k:=by
 induction a with
 |nil=>simp[XH 1 k]
 |cons x a ih=>simp[(oM:a.length+1+1+k=(a.length+1+k)+1),ih]
theorem E9(a b:List Int)(s:Int)(k:Nat):(a++s::b).drop (a.length+1+k)=b.drop k:=by
 induction a with
 |nil=>simp[XH 1 k]
 |cons x a ih=>simp[(oM:a.length+1+1+k=(a.length+1+k)+1),ih]
theorem ir:∀{t:Tr}{h:b_}{p:Option Nat}{at':Int},WF h->At h t p->P2 t.j_->0<=at'->at'<=1000000->
 av go 233 [pv p,ZZ at'] h fun v h'=>∃t1 t2 p1 p2,v=.G [pv p1,pv p2]/\At h' t1 p1/\At h' t2 p2/\t1.j_=t.j_.take at'.toNat/\t2.j_=t.j_.drop at'.toNat/\Fr [] h h':=by
 intro t;induction t with
 |D_=>intro h p at' w a f h0 h1;have a:p=none:=a;subst a;refine ai ?_;simp only[a_,seval];exact⟨.D_,.D_,none,none,rfl,rfl,rfl,by simp[Tr.j_],by simp[Tr.j_],Vk w⟩
 |X l s r ihl ihr=>intro h p at' w a f h0 h1;obtain⟨b,pl,pr,rfl,o,al,ar⟩:=a;have l1:=Tr.Q7 l;have f3:=f.2.2;simp only[Tr.j_,Vv,Vy]at f3;have f1:P2 (l.j_++s::r.j_):=f;refine ai ?_;simp[a_,aU,o.o];refine aa (iP al) ?_;rintro _ _ ⟨rfl,rfl⟩;simp[a_];split;rename_i ab;simp(disch:=omega)[a_,ah,o.o];apply aa (ihr w ar f1.V.p_ oM oM);rintro _ h1 ⟨t1,t2,p1,p2,rfl,a1,a2,e1,e2,Z⟩;simp[a_,g_,(Z.c_ o).o];refine aa (mM Z.r (al.fr Z) a1 (by rw[e1];exact f1.ar ((Xp _).append ((XG _ _).cons_cons _)))) ?_;rintro _ h2 ⟨t3,p3,rfl,a3,e3,K⟩;simp only[a_,seval,DF,g_,(Z.c_ o).o];have e:at'.toNat=l.j_.length+1+(at'-l.U1-1).toNat:=oM;refine⟨t3,t2,p3,p2,rfl,a3,a2.fr K,?_,?_,Z.c K⟩;rw[e3,e1,e,Tr.j_,Er];rw[e2,e,Tr.j_,E9];rename_i ab;simp[a_,o.o];apply aa (ihl w al f1.aj h0 h1);rintro _ h1 ⟨t1,t2,p1,p2,rfl,a1,a2,e1,e2,Z⟩;simp[a_,g_,(Z.c_ o).o];refine aa (mM Z.r a2 (ar.fr Z) (by rw[e2];exact f1.ar ((WR _ _).append (Xp _)))) ?_;rintro _ h2 ⟨t3,p3,rfl,a3,e3,K⟩;simp only[a_,seval,DF,g_,(Z.c_ o).o];refine⟨t1,t3,p1,p3,rfl,a1.fr K,a3,?_,?_,Z.c K⟩;rw[e1,Tr.j_,VI oM];rw[e3,e2,Tr.j_,Wc oM]
theorem oI{h:b_}{l r:Tr}(w:WF h)(al:At h l pl)(ar:At h r pr)(f:P2 (l.j_++r.j_)):
 av go 207 [pv pl,pv pr] h fun v h'=>∃t p,v=pv p/\At h' t p/\t.j_=l.j_++r.j_/\Fr [] h h':=by
 cases r with
 |D_=>have a:pr=none:=ar;subst a;refine ai ?_;simp[a_];exact⟨l,pl,rfl,al,by simp[Tr.j_],Vk w⟩
 |X rl rs rr=>
  have ae:=ar;obtain⟨b,an,af,rfl,o,ak,aj⟩:=ar;refine ai ?_;simp[a_,aU];refine aa (ir (at':=1) w ae f.V oM oM) ?_;rintro _ h1 ⟨t1,t2,p1,p2,rfl,a1,a2,Z,e2,K⟩;cases t1 with
  |D_=>simp[Tr.j_]at Z
  |X x y z=>
   obtain⟨b1,q1,q2,rfl,o1,_⟩:=a1;have ne:(Tr.X rl rs rr).j_≠[]:=by simp[Tr.j_]
   obtain⟨u,us,eu⟩:∃u us,(Tr.X rl rs rr).j_=u::us:=by cases hh:(Tr.X rl rs rr).j_ with
    |nil=>exact absurd hh ne
    |cons u us=>exact⟨u,us,rfl⟩
   rw[eu]at Z e2 f;simp[Tr.j_]at Z e2;have hx:x.j_=[]/\y=u:=by
    cases ab:x.j_ with
    |nil=>rw[ab]at Z;simp at Z;exact⟨rfl,Z.1⟩
    |cons i j=>rw[ab]at Z;have:=congrArg List.length Z;simp at this
   obtain⟨_,rfl⟩:=hx;simp[a_,aU,o1.o];refine aa (mM K.r (al.fr K) a2 (by rw[e2];exact f)) ?_;rintro _ h2 ⟨t3,p3,rfl,a3,e3,ac⟩;simp[a_];exact⟨t3,p3,rfl,a3,by rw[e3,e2,eu],K.c ac⟩
theorem At.aI{h:b_}{b:Nat}{c:List V}(f:Fr [b] h h')(o:f_ h b c)(hc:c.length≠6):∀{t:Tr}{p:Option Nat},At h t p->At h' t p
 |.D_,_,a=>a
 |.X l s r,_,⟨q,pl,pr,e,oq,al,ar⟩=>⟨q,pl,pr,e,f.D _ _ (by
  simp;rintro rfl;have:=oq.ae o;subst this;simp at hc) oq,At.aI f o hc al,At.aI f o hc ar⟩
def Rp(h:b_)(v:V)(l:List Int):Prop:=∃t p,v=.B [pv p]/\At h t p/\t.j_=l/\P2 l
theorem Rp.fr{h:b_}{v:V}{l:List Int}(a:Rp h v l)(f:Fr [] h h'):Rp h' v l:=by let⟨t,p,e,a,x⟩:=a;exact⟨t,p,e,a.fr f,x⟩
theorem Rp.aI{h:b_}{v:V}{l:List Int}{b:Nat}{c:List V}(a:Rp h v l)(f:Fr [b] h h')(o:f_ h b c)(Z:c.length≠6):Rp h' v l:=by let⟨t,p,e,a,x⟩:=a;exact⟨t,p,e,a.aI f o Z,x⟩
theorem mb{h:b_}{v:V}{l:List Int}(w:WF h)(a:Rp h v l):av go 192 [v] h fun u h'=>u=ZZ l.length/\Fr [] h h':=by obtain⟨t,p,rfl,a,rfl,f⟩:=a;let⟨h1,ac,K,ab⟩:=au w [pv p];refine ai ?_;simp[a_,<-ac,ab.o];refine aa (iP (a.fr K)) ?_;rintro _ _ ⟨rfl,Z⟩;simp[a_];subst Z;exact⟨by rw[Tr.Q7],K⟩
theorem qr{h:b_}{v:V}{l:List Int}(w:WF h)(a:Rp h v l):av go 55 [v] h fun u h'=>u=ZZ l.sum/\Fr [] h h':=by obtain⟨t,p,rfl,a,rfl,f⟩:=a;let⟨h1,ac,K,ab⟩:=au w [pv p];refine ai ?_;simp[a_,<-ac,ab.o];refine aa (pA (a.fr K)) ?_;rintro _ _ ⟨rfl,Z⟩;simp[a_];subst Z;exact⟨by rw[Tr.Zu],K⟩
theorem EX{a b:List Int}{i:Nat}(h:i<a.length):(a++b).getD i 0=a.getD i 0:=by simp[Xa h]
theorem uH{a b:List Int}{i:Nat}(h:a.length<=i):(a++b).getD i 0=b.getD (i-a.length) 0:=by simp[Ya h]
theorem Kt:∀{t:Tr}{h:b_}{p:Option Nat}{i:Int},At h t p->0<=i->i<t.j_.length->P2 t.j_->
 av go 254 [pv p,ZZ i] h fun u h'=>h'=h/\∃b c,u=.u b 0/\f_ h b c/\X0 c 2=some (ZZ (t.j_.getD i.toNat 0)):=by
 intro t;induction t with
 |D_=>intro h p i a h0 h1 f;simp[Tr.j_]at h1;omega
 |X l s r ihl ihr=>intro h p i a h0 h1 f;obtain⟨b,pl,pr,rfl,o,al,ar⟩:=a;have l1:=Tr.Q7 l;have f3:=f.2.2;simp only[Tr.j_,Vv,Vy]at f3 h1;have f1:P2 (l.j_++s::r.j_):=f;refine ai ?_;simp only[a_,seval,aU,o.o];refine aa (iP al) ?_;rintro _ _ ⟨rfl,rfl⟩;simp only[a_,seval];split;simp only[a_,seval,o.o];apply aa (ihl al h0 oM f1.aj);rintro _ _ ⟨rfl,K,c',rfl,o',Z⟩;simp only[a_,seval];refine⟨K,c',rfl,o',?_⟩;rw[Z,Tr.j_,EX oM];split;simp(disch:=omega) only[a_,seval,ah,o.o];apply aa (ihr ar oM oM f1.V.p_);rintro _ _ ⟨rfl,K,c',rfl,o',Z⟩;simp only[a_,seval];refine⟨K,c',rfl,o',?_⟩;rw[Z,Tr.j_,uH oM,(oM:i.toNat-l.j_.length=(i-l.U1-1).toNat+1)];simp;refine⟨b,_,rfl,o,?_⟩;rw[db,db,bX,Tr.j_,uH oM,(oM:i.toNat-l.j_.length=0)];simp
theorem I8{h:b_}{v:V}{l:List Int}{i:Int}(w:WF h)(a:Rp h v l):
 av go 204 [v,ZZ i] h fun u h'=>(u=if 0<=i/\i<l.length then .G [ZZ (l.getD i.toNat 0),ZZ 0]else .G [ZZ 0,ZZ 4])/\Fr [] h h':=by
 have a0:=a;obtain⟨t,p,rfl,a,rfl,f⟩:=a;let⟨h1,ae,ab,ac⟩:=au w [pv p];have f3:=f.2.2;by_cases h0:i<0;refine ai ?_;simp only[a_,seval,<-ae,h0];exact⟨by rw[if_neg oM],ab⟩;refine ai ?_;simp only[a_,seval,<-ae,ac.J,h0];apply aa (mb ab.r (a0.fr ab));rintro _ h2 ⟨rfl,Z⟩;by_cases K:(t.j_.length:Int)<=i;simp only[a_,seval,K];exact⟨by rw[if_neg oM],ab.c Z⟩;simp only[a_,seval,K,(Z.c_ ac).o];apply aa (Kt (a.fr (ab.c Z)) oM oM f);rintro _ _ ⟨rfl,b,c,rfl,o,e⟩;simp only[a_,seval,o.o,e];exact⟨by rw[if_pos oM],ab.c Z⟩
def aX:List Int->Int->Nat×Int
 |[],x=>(0,x)
 |s::l,x=>if x<s then(0,x)else((aX l (x-s)).1+1,(aX l (x-s)).2)
theorem rO:∀(a b:List Int)(x:Int),0<=x->x<a.sum->(∀y∈a,0<=y)->aX (a++b) x=aX a x
 |[],b,x,h0,h1,hp=>by simp at h1;omega
 |s::a,b,x,h0,h1,hp=>by simp[aX];split;rfl;rw[rO a b (x-s) oM (by simp at h1;omega) (fun y hy=>hp y iX)]
theorem pM:∀(a b:List Int)(x:Int),a.sum≤x→(∀y∈a,0≤y)→aX (a++b) x=(a.length+(aX b (x-a.sum)).1,(aX b (x-a.sum)).2)
 |[],b,x,h1,hp=>by simp
 |s::a,b,x,h1,hp=>by have hs:=hp s iS;have ha:=Zv (l:=a) fun y hy=>hp y iX;simp only[List.sum_cons]at h1;simp only[List.cons_append,aX];rw[if_neg oM,pM a b (x-s) oM (fun y hy=>hp y iX)];simp only[List.sum_cons,List.length_cons,(oM:x-s-a.sum=x-(s+a.sum))];ext<;>simp;omega
theorem Lq{h:b_}{v:V}{l:List Int}{x:Int}(w:WF h)(a:Rp h v l)(aj:-9223372036854775808<=x)(af:x<=9223372036854775807):
 av go 213 [v,ZZ x] h fun u h'=>(u=if 0<=x/\x<l.sum then .G [ZZ (aX l x).1,ZZ (aX l x).2,ZZ 0]else .G [ZZ 0,ZZ 0,ZZ 4])/\Fr [] h h':=by
 have a0:=a;obtain⟨t,p,rfl,a,rfl,f⟩:=a;let⟨h1,ax,ak,an⟩:=au w [pv p];have f3:=f.2.2;by_cases h0:x<0
 ·refine ai ?_;simp only[a_,seval,<-ax,h0];exact⟨by rw[if_neg oM],ak⟩
 ·refine ai ?_;simp[a_,<-ax,an.J,h0];refine aa (qr ak.r (a0.fr ak)) ?_;rintro _ h2 ⟨rfl,F2⟩;by_cases h3:t.j_.sum<=x
  ·simp only[a_,seval,h3];exact⟨by rw[if_neg oM],ak.c F2⟩
  ·simp[a_,h3,(F2.c_ an).o];have ab:=ak.c F2;refine aC (fun k env hh=>hh=h2/\∃(y:Tr)(q:Option Nat)(i r:Int),env.c_ 7=some (pv q)/\env.c_ 4=some (ZZ i)/\env.c_ 5=some (ZZ r)/\At h2 y q/\P2 y.j_/\
    0<=i/\i+y.j_.length<=t.j_.length/\0<=r/\r<y.j_.sum/\i+(aX y.j_ r).1=(aX t.j_ x).1/\(aX y.j_ r).2=(aX t.j_ x).2/\k=y.j_.length) t.j_.length oM ?_ ?_
   ·refine⟨rfl,t,p,0,x,?_,?_,?_,a.fr ab,f,oM,oM,oM,oM,oM,rfl,rfl⟩;all_goals simp
   ·rintro k env hh ⟨rfl,y,q,i,r,g7,g4,g5,ay,fy,i0,i1,r0,r1,e1,e2,rfl⟩;cases y with
    |D_=>simp[Tr.j_]at r1;omega
    |X l' K r'=>
     obtain⟨b,pl,pr,rfl,o,al,ar⟩:=ay;have l1:=Tr.Q7 l';have l2:=Tr.Zu l';have Z:=fy;simp only[Tr.j_]at Z i1 r1 e1 e2;have nl:=Z.aj.nn;have nr:=Z.V.p_.nn;have ns:0<=K:=Z.1 K iS;have ac:=Z.2.2;have ae:=Z.2.1;simp only[Vv,Vy,XF,Xb]at ac i1 r1 ae;simp only[a_,seval,g7,aU,o.o];apply aa (pA al);rintro _ _ ⟨rfl,rfl⟩;simp(disch:=omega) only[a_,seval,ah,g7,g4,g5,aU,o.o];by_cases hk:r<l'.b?
     ·simp only[a_,seval,hk];rw[rO _ _ _ r0 oM Z.aj.1]at e1 e2;refine t_ ⟨l'.j_.length,by simp only[Tr.j_,Vv,Vy];omega,rfl,l',pl,i,r,iS,iX,iX,al,Z.aj,i0,oM,r0,oM,e1,e2,rfl⟩
     ·rw[pM _ _ _ oM Z.aj.1]at e1 e2;by_cases hm:r<l'.b?+K
      ·simp only[a_,seval,hk,hm];apply aa (iP al);rintro _ _ ⟨rfl,rfl⟩;simp(disch:=omega)[a_,ah,g5];refine⟨?_,ab⟩;rw[if_pos oM,<-e1,<-e2];simp only[aX,if_pos (oM:r-l'.j_.sum<K),l2,l1];simp
      ·simp only[a_,seval,hk,hm];apply aa (iP al);rintro _ _ ⟨rfl,rfl⟩;simp(disch:=omega) only[a_,seval,ah,g7,aU,o.o];simp only[aX,if_neg (oM:¬r-l'.j_.sum<K)]at e1 e2;refine t_ ⟨r'.j_.length,by simp[Tr.j_];omega,rfl,r',pr,i+(l'.U1+1),r-(l'.b?+K),iS,iS,iS,ar,Z.V.p_,oM,oM,oM,oM,?_,?_,rfl⟩
       ·grind
       ·grind
def Q3{α:Type}(f:α->V)(h:b_)(v:V)(l:List α):Prop:=Sl h 1 v l.length (l.map f)
theorem Q3.fr{f:α->V}{h:b_}{v:V}{l:List α}(a:Q3 f h v l)(r:Fr [] h h'):Q3 f h' v l:=Sl.fr a r
theorem Q3.A_{f:α->V}{h:b_}{v:V}{l:List α}(a:Q3 f h v l):aP .d [v]=some (ZZ l.length):=Sl.A_ a
theorem Q3.ix{f:α->V}{h:b_}{v:V}{l:List α}(a:Q3 f h v l)(k:IntKind)(i:Int)(h0:0<=i)(K:i<l.length):
 ∃b o x,aP (.c 1) [v,.C k i]=some (.u b o)/\ag h b o=some (f x)/\l[i.toNat]? =some x:=by
 let⟨b,o,e,g,_⟩:=Sl.ix a k i h0 K;have Z:i.toNat<l.length:=oM;refine⟨b,o,l[i.toNat],e,?_,by simp⟩;have:=g 0 oM;simpa[Z]using this
theorem Q3.ba{f:α->V}{h:b_}{v:V}{l:List α}(a:Q3 f h v l)(hv:v≠.F)(k:IntKind)(i:Int)(h0:0<=i)(Z:i<=l.length):
 ∃v',aP (.s none 1 false true false) [v,.C k i]=some v'/\Q3 f h v' (l.take i.toNat):=by
 let⟨v',e,s⟩:=Sl.ba a oM hv k i h0 Z;refine⟨v',e,?_⟩;unfold Q3;rw[Xg,WE oM,Wf];simpa using s
theorem Q3.aO{f:α->V}{h:b_}{v:V}{l:List α}(a:Q3 f h v l)(hv:v≠.F)(k:IntKind)(i:Int)(h0:0<=i)(Z:i<=l.length):
 ∃v',aP (.s none 1 true false false) [v,.C k i]=some v'/\Q3 f h v' (l.drop i.toNat):=by
 let⟨v',e,s⟩:=Sl.aO a oM hv k i h0 Z;refine⟨v',e,?_⟩;unfold Q3;rw[Xv,VZ];simpa using s
abbrev qz(h:b_)(v:V)(l:List Int):Prop:=Q3 (V.C .i64) h v l
abbrev J_(h:b_)(v:V)(l:List Bool):Prop:=Q3 V.h h v l
def X_:List Int->Int->Int
 |[],_=>0
 |s::l,t=>if s<0\/2305843009213693952<s then 12 else if 4611686018427387904-t<s then 13 else X_ l (t+s)
theorem aN{l:List α}{i:Nat}{x:α}(h:l[i]? =some x):l.drop i=x::l.drop (i+1):=by
 have Z:i<l.length:=by grind
 rw[Wm Z];congr 1;rw[Vp Z]at h;cases h;rfl
theorem vF{h:b_}{v:V}{l:List Int}(w:WF h)(a:qz h v l)(hn:l.length<=1000000):
 av go 262 [v] h fun u h'=>u=ZZ (if 4096<l.length then 3 else X_ l 0)/\h'=h:=by
 by_cases hl:(4096:Int)<l.length;refine ai ?_;simp only[a_,seval,a.A_,hl];rw[if_pos oM];refine ai ?_;simp[a_,a.A_,hl];refine aC (fun k env hh=>hh=h/\∃(i:Nat)(t:Int),env.c_ 11=some (ZZ i)/\env.c_ 3=some (ZZ t)/\env.c_ 9=some v/\env.c_ 10=some (ZZ l.length)/\
  i<=l.length/\0<=t/\t<=4611686018427387904/\X_ (l.drop i) t=X_ l 0/\k=l.length-i) l.length oM ?_ ?_
 exact⟨rfl,0,0,iS,iS,iS,iS,oM,oM,oM,iS,rfl⟩;rintro k env hh ⟨rfl,i,t,ab,g3,g9,K,hi,t0,t1,e,rfl⟩;by_cases Z:(i:Int)<l.length;let⟨b,o,x,e1,e2,e3⟩:=a.ix .i64 i oM Z;simp at e3;rw[aN e3,X_]at e;by_cases h1:x<0;simp only[a_,seval,ab,g9,K,Z,e1,e2,h1];rw[if_neg oM,<-e,if_pos (.inl h1)];by_cases h2:2305843009213693952<x;simp only[a_,seval,ab,g9,K,Z,e1,e2,h1,h2];rw[if_neg oM,<-e,if_pos (.inr h2)];rw[if_neg oM]at e;by_cases h3:4611686018427387904-t<x;simp(disch:=omega) only[a_,seval,ah,ab,g3,g9,K,Z,e1,e2,h1,h2,h3];rw[if_neg oM,<-e,if_pos h3];simp(disch:=omega) only[a_,seval,ah,ab,g3,g9,K,Z,e1,e2,h1,h2,h3];rw[if_neg h3]at e;refine t_ ⟨l.length-(i+1),oM,rfl,i+1,t+x,iS,iS,iX,iX,oM,oM,oM,e,rfl⟩;simp only[a_,seval,ab,K,Z];rw[if_neg oM,<-e,Vq oM,X_]
theorem AJ{l:List Int}{i:Nat}{x:Int}(h:l[i]? =some x):l=l.take i++x::l.drop (i+1):=by rw[<-aN h,VA]
theorem EW:∀(n:Nat){h:b_}{v:V}{l:List Int},l.length<=n->WF h->qz h v l->P2 l->
 av go 296 [v] h fun u h'=>∃t p,u=pv p/\At h' t p/\t.j_=l/\Fr [] h h':=by
 intro n;induction n with
 |zero=>intro h v l hn w a f;have:l=[]:=VH.1 oM;subst this;have hz:=a.A_;simp at hz;refine ai ?_;simp[a_,hz];exact⟨.D_,none,rfl,rfl,rfl,Vk w⟩
 |succ n ih=>intro h v l hn w a f;by_cases h0:(l.length:Int)=0;grind;have f3:=f.2.2;have hv:v≠.F:=Sl.ne a oM;have hm:Int.tdiv (l.length:Int) 2=((l.length/2:Nat):Int):=(Int.ofNat_tdiv l.length 2).symm;obtain⟨m,em⟩:∃m:Nat,m=l.length/2:=⟨_,rfl⟩;rw[<-em]at hm;let⟨v1,s1,i1⟩:=a.ba hv .i64 m oM oM;let⟨v2,s2,i2⟩:=a.aO hv .i64 (m+1) oM oM;let⟨b,o,x,e1,e2,e3⟩:=a.ix .i64 m oM oM;simp only[pi]at i1 i2 e3;rw[(oM:((m:Int)+1).toNat=m+1)]at i2;have el:=AJ e3;have f':P2 (l.take m++x::l.drop (m+1)):=el▸f;refine ai ?_;simp(disch:=omega) only[a_,seval,g_,ah,a.A_,h0,pp _ _ 2 dI,hm,s1];refine aa (ih oO w i1 f'.aj) ?_;rintro _ h1 ⟨t1,p1,rfl,a1,aj,K⟩;let⟨b',o',x',an,ay,af⟩:=(a.fr K).ix .i64 m oM oM;simp at af;rw[e1]at an;cases an;rw[e3]at af;cases af;simp(disch:=omega)[a_,g_,ah,e1,ay,s2];apply aa (ih oO K.r (i2.fr K) f'.V.p_);rintro _ h2 ⟨t2,p2,rfl,a2,ak,ae⟩;have ab:=K.c ae;let⟨a0,aH,a4,ac,ax,Z⟩:=(a.fr ab).ix .i64 m oM oM;simp at Z;rw[e1]at ac;cases ac;rw[e3]at Z;cases Z;simp[a_,g_];refine aa (dT ae.r (a1.fr ae) a2 (by rw[aj,ak];exact f')) ?_;rintro _ h3 ⟨b3,rfl,a3,ar⟩;simp[a_,DF,g_,e2,ay,ax];exact⟨_,_,rfl,a3,by rw[Tr.j_,aj,ak];exact el.symm,ab.c ar⟩
theorem HR{h:b_}{v:V}{l:List Int}(w:WF h)(a:qz h v l)(f:P2 l):
 av go 296 [v] h fun u h'=>∃t p,u=pv p/\At h' t p/\t.j_=l/\Fr [] h h':=EW _ (Ve _) w a f
theorem Dz:∀(l:List Int)(t:Int),X_ l t=0→0≤t→(∀x∈l,0≤x)∧t+l.sum≤4611686018427387904∨l=[]
 |[],t,_,_=>.inr rfl
 |s::l,t,h,h0=>by rw[X_]at h;by_cases h1:s<0∨2305843009213693952<s;omega;rw[if_neg h1]at h;by_cases h2:4611686018427387904-t<s;omega;rw[if_neg h2]at h;obtain⟨a,b⟩|rfl:=Dz l (t+s) h oM;grind;grind
theorem P2.bz{l:List Int}(h:X_ l 0=0)(Z:l.length<=1000000):P2 l:=by obtain⟨a,b⟩|rfl:=Dz l 0 h oM;exact⟨a,oM,oM⟩;exact⟨iS,iS,iS⟩
theorem Np{h:b_}{v:V}{l:List Int}(w:WF h)(a:qz h v l)(hn:l.length<=1000000):
 av go 285 [v] h fun u h'=>Fr [] h h'/\∃c e,u=.G [.B [c],ZZ e]/\c.O=true/\(e=if 4096<l.length then 3 else X_ l 0)/\(e=0->Rp h' (.B [c]) l):=by
 let⟨h1,ae,ab,ac⟩:=au w [.K];by_cases Z:(if 4096<l.length then 3 else X_ l 0)=0;have hc:X_ l 0=0:=by by_cases h4:4096<l.length;rw[if_pos h4]at Z;omega;rw[if_neg h4]at Z;exact Z
 have f:=P2.bz hc hn;refine ai ?_;simp[a_,<-ae];refine aa (vF ab.r (a.fr ab) hn) ?_;rintro _ _ ⟨rfl,hh⟩;subst hh;simp[a_,Z];refine aa (HR ab.r (a.fr ab) f) ?_;rintro _ h2 ⟨t,p,rfl,at',et,F2⟩;simp[a_];refine ao (c':=[pv p]) F2.r (F2.c_ ac) rfl (by simp[aw,fO,V.s]) rfl ?_;rintro h3 o3 K n3;simp only[a_,seval,o3.J];exact⟨(ab.c F2).y K w (Ve _),_,_,rfl,fO _,rfl,fun _=>⟨t,p,rfl,at'.aI K (F2.c_ ac) iS,et,f⟩⟩;refine ai ?_;simp[a_,<-ae];refine aa (vF ab.r (a.fr ab) hn) ?_;rintro _ _ ⟨rfl,hh⟩;subst hh;simp[a_,Z];apply u_ ab.r ac;rintro h3 o3 K n3;simp only[a_,seval,o3.J];exact⟨ab.y K w (Ve _),_,_,rfl,rfl,rfl,fun e=>absurd e Z⟩
theorem Own.ne{h:b_}{b Z:Nat}{c c':List V}(o:f_ h b c)(K:f_ h Z c')(hc:c≠c'):b≠Z:=by rintro rfl;exact hc (o.ae K)
theorem FO{h:b_}{v:V}{l:List Int}{i:Int}(w:WF h)(a:Rp h v l):
 av go 284 [v,ZZ i] h fun u h'=>Fr [] h h'/\if 0<=i/\i<=l.length then∃r1 r2,u=.G [r1,r2,ZZ 0]/\Rp h' r1 (l.take i.toNat)/\Rp h' r2 (l.drop i.toNat)
  else u=.G [.B [.K],.B [.K],ZZ 4]:=by
 have a0:=a;obtain⟨t,p,rfl,a,rfl,f⟩:=a;have f3:=f.2.2;let⟨h1,a7,a3,a8⟩:=au w [pv p];let⟨h2,a5,ay,a9⟩:=au a3.r [.K];let⟨h3,a6,a4,aH⟩:=au ay.r [.K];have ac:=(a3.c ay).c a4;have o1:=a4.c_ (ay.c_ a8);have o2:=a4.c_ a9;have ne:h1.i≠h2.i:=by rw[a5];simp[lG]
 have b1:h.i<=h1.i:=a3.i;have b2:h.i<=h2.i:=(a3.c ay).i;by_cases h0:i<0;refine ai ?_;simp[a_,<-a7,<-a5,<-a6,h0];refine u_ ac.r o2 ?_;rintro h5 ae K an;simp[a_];refine u_ K.r (K.D _ _ oO aH) ?_;rintro h6 ab Z ak;simp only[a_,seval,ab.J,(Z.D _ _ oO ae).J];rw[if_neg oM];exact⟨(ac.y K w b1).y Z w b2,trivial⟩;refine ai ?_;simp[a_,<-a7,<-a5,<-a6,o1.J,h0];refine aa (mb ac.r (a0.fr ac)) ?_;rintro _ h4 ⟨rfl,F4⟩;by_cases hi:(t.j_.length:Int)<i;simp[a_,hi];apply u_ F4.r (F4.c_ o2);rintro h5 ae K an;simp[a_];apply u_ K.r (K.D _ _ oO (F4.c_ aH));rintro h6 ab Z ak;simp only[a_,seval,ab.J,(Z.D _ _ oO ae).J];rw[if_neg oM];exact⟨((ac.c F4).y K w b1).y Z w b2,trivial⟩;simp[a_,hi,(F4.c_ o1).o];apply aa (ir F4.r (a.fr (ac.c F4)) f oM oM);rintro _ h5 ⟨t1,t2,p1,p2,rfl,a1,a2,e1,e2,F5⟩;simp[a_];have af:=F4.c F5;apply u_ F5.r (af.c_ o2);rintro h6 ab Z ak;simp[a_];apply u_ Z.r (Z.D _ _ oO (af.c_ aH));rintro h7 ar aj ax;simp only[a_,seval,ar.J,(aj.D _ _ oO ab).J];rw[if_pos oM];have c1:∀{t:Tr}{p:Option Nat},At h5 t p->At h7 t p:=fun x=>(x.aI Z (af.c_ o2) iS).aI aj (Z.D _ _ oO (af.c_ aH)) iS;exact⟨((ac.c af).y Z w b1).y aj w b2,_,_,rfl,⟨t1,p1,rfl,c1 a1,e1,f.ar (XG _ _)⟩,⟨t2,p2,rfl,c1 a2,e2,f.ar (WR _ _)⟩⟩
def kC(l m:List Int):Int:=if 4096<l.length+m.length then 3 else if 4611686018427387904-m.sum<l.sum then 13 else 0
theorem Lp{h:b_}{v u:V}{l m:List Int}(w:WF h)(a:Rp h v l)(a':Rp h u m):
 av go 286 [v,u] h fun z h'=>Fr [] h h'/\∃c,z=.G [.B [c],ZZ (kC l m)]/\c.O=true/\(kC l m=0->Rp h' (.B [c]) (l++m)):=by
 have a0:=a;have ar:=a';obtain⟨t,p,rfl,a,rfl,f⟩:=a;obtain⟨t',p',rfl,a',rfl,f'⟩:=a';have f3:=f.2.2;have a4:=f'.2.2;have n:=f.nn;have n':=f'.nn;have f2:=f.2.1;have a3:=f'.2.1;let⟨h1,bg,a8,a9⟩:=au w [pv p];let⟨h2,bf,a5,bc⟩:=au a8.r [pv p'];let⟨h3,ba,a7,a6⟩:=au a5.r [.K];have Z:=(a8.c a5).c a7;have o1:=a7.c_ (a5.c_ a9);have o2:=a7.c_ bc;have b2:h.i<=h2.i:=(a8.c a5).i;refine ai ?_;simp[a_,g_,<-bg,<-bf,<-ba,o1.J];refine aa (mb Z.r (a0.fr Z)) ?_;rintro _ h4 ⟨rfl,F4⟩;simp[a_,g_,(F4.c_ o2).J];apply aa (mb F4.r (ar.fr (Z.c F4)));rintro _ h5 ⟨rfl,F5⟩;simp(disch:=omega)[a_,DF,g_,ah,o1.J,o2.J,(F4.c_ o2).J];have ab:=F4.c F5;by_cases c1:(4096:Int)<t.j_.length+t'.j_.length;simp[c1];apply u_ F5.r (ab.c_ a6);rintro h6 an af aH;simp only[a_,seval,an.J];have e:kC t.j_ t'.j_=3:=by unfold kC;rw[if_pos oM]
 rw[e];exact⟨(Z.c ab).y af w b2,_,rfl,rfl,iS⟩;simp[a_,g_,c1,(ab.c_ o1).J];apply aa (qr F5.r (a0.fr (Z.c ab)));rintro _ h6 ⟨rfl,F6⟩;have ac:=ab.c F6;simp[a_,g_,(ac.c_ o2).J];apply aa (qr F6.r (ar.fr (Z.c ac)));rintro _ h7 ⟨rfl,F7⟩;have K:=ac.c F7;simp(disch:=omega)[a_,DF,g_,ah,(ab.c_ o1).J,(ac.c_ o2).J,(ab.c_ o2).J];by_cases c2:4611686018427387904-t'.j_.sum<t.j_.sum;simp[c2];apply u_ F7.r (K.c_ a6);rintro h8 aj ak ay;simp only[a_,seval,aj.J];have e:kC t.j_ t'.j_=13:=by unfold kC;rw[if_neg oM,if_pos c2]
 rw[e];exact⟨(Z.c K).y ak w b2,_,rfl,rfl,iS⟩;simp[a_,c2,(K.c_ o1).o,(K.c_ o2).o];have ff:P2 (t.j_++t'.j_):=⟨fun x hx=>by obtain y|y:=Vc.1 hx;exact f.1 x y;exact f'.1 x y,by rw[XF];omega,by rw[Vv];omega⟩
 apply aa (oI F7.r (a.fr (Z.c K)) (a'.fr (Z.c K)) ff);rintro _ h8 ⟨t2,p2,rfl,a2,e2,F8⟩;simp[a_];apply u_ F8.r ((K.c F8).c_ a6);rintro h9 ax ae a1;simp only[a_,seval,ax.J];have e:kC t.j_ t'.j_=0:=by unfold kC;rw[if_neg oM,if_neg c2]
 rw[e];exact⟨(Z.c (K.c F8)).y ae w b2,_,rfl,fO _,fun _=>⟨t2,p2,rfl,a2.aI ae ((K.c F8).c_ a6) iS,e2,ff⟩⟩
def ni(l:List Int)(i size:Int):Int:=if 0<=i/\i<l.length then if size<0\/2305843009213693952<size then 12 else if 4611686018427387904-(l.sum-l.getD i.toNat 0)<size then 13 else 0 else 4
theorem CT:∀(l:List Int)(i:Nat)(x:Int),i<l.length→(l.set i x).sum=l.sum-l.getD i 0+x
 |y::l,0,x,_=>by simp;omega
 |y::l,i+1,x,h=>by have:=CT l i x (eV h);simp at this⊢;omega
theorem Et:∀(l:List Int)(i:Nat)(x:Int),i<l.length->l.set i x=l.take i++x::l.drop (i+1):=by intro l i x h;rw[WK,if_pos h]
theorem P2.B_{l:List Int}(f:P2 l){i:Nat}{x:Int}(Z:i<l.length)(h0:0<=x)(h1:x<=4611686018427387904-(l.sum-l.getD i 0)):P2 (l.set i x):=by refine⟨fun y K=>?_,?_,?_⟩;obtain a|a:=WH K;exact f.1 y a;omega;rw[CT _ _ _ Z];omega;rw[VV];exact f.2.2
theorem Dm:∀{l:List Int}{i:Nat},(∀x∈l,0≤x)→l.getD i 0≤l.sum∧0≤l.getD i 0
 |[],i,_=>by simp
 |y::l,0,h=>by have:=Zv (l:=l) fun z hz=>h z iX;have:=h y iS;simp;omega
 |y::l,i+1,h=>by have:=Dm (l:=l) (i:=i) fun z hz=>h z iX;have:=h y iS;simp at *;omega
theorem Ld{h:b_}{v:V}{l:List Int}{i:Int}(w:WF h)(a:Rp h v l)(s0:-9223372036854775808<=size)(s1:size<=9223372036854775807):
 av go 181 [v,ZZ i,ZZ size] h fun u h'=>Fr [] h h'/\∃c,u=.G [.B [c],ZZ (ni l i size)]/\c.O=true/\(ni l i size=0->Rp h' (.B [c]) (l.set i.toNat size)):=by
 have a0:=a;obtain⟨t,p,rfl,a,rfl,f⟩:=a;have f3:=f.2.2;have f2:=f.2.1;have n:=f.nn;have gd:=Dm (i:=i.toNat) f.1;let⟨h1,bc,a7,a9⟩:=au w [pv p];let⟨h2,ba,a8,a6⟩:=au a7.r [.K];have Z:=a7.c a8;have o1:=a8.c_ a9;have b1:h.i<=h1.i:=a7.i;refine ai ?_;simp[a_,<-bc,<-ba,o1.J];refine aa (I8 Z.r (a0.fr Z)) ?_;rintro _ h3 ⟨rfl,F3⟩;by_cases hi:0<=i/\i<t.j_.length;rw[if_pos hi];by_cases c1:size<0;simp only[a_,↓reduceIte,Nat.reduceEqDiff,c1];apply u_ F3.r (F3.c_ a6);rintro h4 ab K af;simp only[a_,↓reduceIte,Nat.reduceEqDiff,ab.J];have e:ni t.j_ i size=12:=by unfold ni;rw[if_pos hi,if_pos (.inl c1)]
 rw[e];exact⟨(Z.c F3).y K w b1,_,rfl,rfl,iS⟩;by_cases c2:2305843009213693952<size;simp only[a_,↓reduceIte,Nat.reduceEqDiff,c1,c2];apply u_ F3.r (F3.c_ a6);rintro h4 ab K af;simp only[a_,↓reduceIte,Nat.reduceEqDiff,ab.J];have e:ni t.j_ i size=12:=by unfold ni;rw[if_pos hi,if_pos (.inr c2)]
 rw[e];exact⟨(Z.c F3).y K w b1,_,rfl,rfl,iS⟩;simp only[a_,↓reduceIte,Nat.reduceEqDiff,c1,c2,(F3.c_ o1).J];apply aa (qr F3.r (a0.fr (Z.c F3)));rintro _ h4 ⟨rfl,F4⟩;have ac:=F3.c F4;by_cases c3:4611686018427387904-(t.j_.sum-t.j_.getD i.toNat 0)<size;simp(disch:=omega) only[a_,↓reduceIte,Nat.reduceEqDiff,ah,c3];apply u_ F4.r (ac.c_ a6);rintro h5 ar an ay;simp only[a_,↓reduceIte,Nat.reduceEqDiff,ar.J];have e:ni t.j_ i size=13:=by unfold ni;rw[if_pos hi,if_neg oM,if_pos c3]
 rw[e];exact⟨(Z.c ac).y an w b1,_,rfl,rfl,iS⟩;simp(disch:=omega) only[a_,↓reduceIte,Nat.reduceEqDiff,ah,c3,(ac.c_ o1).o];apply aa (ir F4.r (a.fr (Z.c ac)) f oM oM);rintro _ h5 ⟨t1,t2,p1,p2,rfl,a1,a2,e1,e2,F5⟩;simp only[a_,↓reduceIte];refine aa (ir F5.r a2 (by rw[e2];exact f.ar (WR _ _)) oM oM) ?_;rintro _ h6 ⟨t3,t4,p3,p4,rfl,a3,a4,e3,e4,F6⟩;simp only[a_,↓reduceIte,Nat.reduceEqDiff];have ax:i.toNat<t.j_.length:=oM;have ff:=f.B_ ax (oM:0<=size) oM;have el:t1.j_++size::t4.j_=t.j_.set i.toNat size:=by rw[e1,e4,e2,Et _ _ _ ax,(iR:(1:Int).toNat=1),Wd]
 refine aa (mM F6.r (a1.fr F6) a4 (by rw[el];exact ff)) ?_;rintro _ h7 ⟨t5,p5,rfl,a5,e5,F7⟩;simp only[a_,↓reduceIte,Nat.reduceEqDiff];have aj:=((ac.c F5).c F6).c F7;apply u_ F7.r (aj.c_ a6);rintro h8 ak ae aH;simp only[a_,↓reduceIte,Nat.reduceEqDiff,ak.J];have e:ni t.j_ i size=0:=by unfold ni;rw[if_pos hi,if_neg oM,if_neg c3]
 rw[e];exact⟨(Z.c aj).y ae w b1,_,rfl,fO _,fun _=>⟨t5,p5,rfl,a5.aI ae (aj.c_ a6) iS,e5.trans el,ff⟩⟩;rw[if_neg hi];simp only[a_,↓reduceIte,Nat.reduceEqDiff];simp;apply u_ F3.r (F3.c_ a6);rintro h4 ab K af;simp only[a_,↓reduceIte,Nat.reduceEqDiff,ab.J];have e:ni t.j_ i size=4:=by unfold ni;rw[if_neg hi]
 rw[e];exact⟨(Z.c F3).y K w b1,_,rfl,rfl,iS⟩
def ofE(m:List Int):Int:=if 4096<m.length then 3 else X_ m 0
def vQ(l:List Int)(i:Int)(m:List Int):Int:=if 0<=i/\i<=l.length then if ofE m=0 then kC l m else ofE m else 4
theorem Lh{h:b_}{v u:V}{l m:List Int}{i:Int}(w:WF h)(a:Rp h v l)(am:qz h u m)(hm:m.length<=1000000):
 av go 263 [v,ZZ i,u] h fun z h'=>Fr [] h h'/\∃c,z=.G [.B [c],ZZ (vQ l i m)]/\c.O=true/\(vQ l i m=0->Rp h' (.B [c]) (l.take i.toNat++m++l.drop i.toNat)):=by
 have a0:=a;obtain⟨t,p,rfl,a,rfl,f⟩:=a;let⟨h1,cx,ce,cy⟩:=au w [pv p];let⟨h2,ct,cj,cn⟩:=au ce.r [.K];have bh:=ce.c cj;have o1:=cj.c_ cy;have b1:h.i<=h1.i:=ce.i;refine ai ?_;simp only[a_,↓reduceIte,Nat.reduceEqDiff,Nat.reduceAdd,<-cx,<-ct,o1.J];refine aa (FO bh.r (a0.fr bh)) ?_;rintro _ h3 ⟨F3,hu⟩;have bj:=bh.c F3;have b3:h.i<=h3.i:=bj.i;by_cases hi:0<=i/\i<=t.j_.length;rw[if_pos hi]at hu;obtain⟨r1,r2,rfl,ra,rb⟩:=hu;obtain⟨t1,p1,rfl,a1,e1,f1⟩:=ra;obtain⟨t2,p2,rfl,a2,e2,f2⟩:=rb;let⟨h4,ca,b7,cc⟩:=au F3.r [.K];let⟨h5,cb,b9,ci⟩:=au b7.r [.K];have af:=b7.c b9;have ne:h3.i≠h4.i:=by rw[ca];simp[lG]
 simp only[a_,↓reduceIte,Nat.reduceEqDiff,<-ca,<-cb];apply u_ af.r (b9.c_ cc);rintro h6 ba K bn;simp only[a_,↓reduceIte];apply u_ K.r (K.D _ _ oO ci);rintro h7 ay Z bm;simp only[a_,↓reduceIte,Nat.reduceEqDiff];have oa:=Z.D _ _ oO ba;have b4:h.i<=h4.i:=VC b3 b7.i;have an:=((bj.c af).y K w b3).y Z w b4;have keep:∀{b:Nat}{c:List V},f_ h3 b c->f_ h7 b c:=fun o=>Z.D _ _ (by have:=o.lt F3.r;have:=b7.i;simp;omega) (K.D _ _ (by have:=o.lt F3.r;simp;omega) (af.c_ o));have bg:Fr [] h3 h7:=⟨by have:=af.i;omega,Z.r,fun _ _ _ o=>keep o,fun x c _ o=>Z.pl _ _ (by have:=o.a.lt F3.r;have:=b7.i;simp;omega) (K.pl _ _ (by have:=o.a.lt F3.r;simp;omega) (af.pl _ _ iS o)),fun x k hk o=>Z.lp _ _ hk (K.lp _ _ hk (af.lp _ _ hk o)),fun x c r=>Z.ro _ _ (K.ro _ _ (af.ro _ _ r))⟩;have or:=bg.c_ (F3.c_ cn);have ob:=bg.c_ (F3.c_ o1);apply aa (Np Z.r (am.fr an) hm);rintro _ h8 ⟨F8,c0,e,rfl,bt,ee,hr⟩;change e=ofE m at ee;let⟨h9,cu,cl,cr⟩:=au F8.r [.K];simp only[a_,↓reduceIte,<-cu];apply ao (c':=[c0]) cl.r cr rfl (by simp[aw,V.s,bt]) rfl;rintro bv bk bz bV;have b8:h.i<=h8.i:=(an.c F8).i;have aj:Fr [] h8 bv:=cl.y bz F8.r (Ve _);have bf:=(an.c F8).c aj;have a7:=F8.c aj;by_cases h0:e=0;have em:ofE m=0:=oM;subst h0;have bw:=hr rfl;let⟨t3,p3,q3,a3,e3,f3⟩:=bw;cases q3;simp only[a_,↓reduceIte,Nat.reduceEqDiff,(a7.c_ ob).J,bk.J];apply aa (Lp aj.r (a0.fr bf) (Rp.fr (l:=m) ⟨t3,p3,rfl,a3,e3,f3⟩ aj));rintro _ bA ⟨a8,c',rfl,bB,hj⟩;have ei:vQ t.j_ i m=kC t.j_ m:=by unfold vQ;rw[if_pos hi,if_pos em]
 rw[ei];let⟨cz,co,ch,cq⟩:=au a8.r [.K];simp only[a_,<-co];apply ao (c':=[c']) ch.r cq rfl (by simp[aw,V.s,bB]) rfl;rintro br b6 bp bE;have ak:Fr [] bA br:=ch.y bp a8.r (Ve _);have ae:=(a7.c a8).c ak;have ax:=a8.c ak;by_cases h1:kC t.j_ m=0;simp only[a_,↓reduceIte,Nat.reduceEqDiff,g_,h1,(ae.c_ oa).o,(ax.c_ bk).o];let⟨t9,p9,q9,a9,e9,f9⟩:=hj h1;have ff:P2 (t.j_.take i.toNat++m++t.j_.drop i.toNat):=by
  let⟨x1,x2,x3⟩:=f9;have bC:(t.j_.take i.toNat).sum+(t.j_.drop i.toNat).sum=t.j_.sum:=by rw[<-XF,VA]
  have bD:(t.j_.take i.toNat).length+(t.j_.drop i.toNat).length=t.j_.length:=by grind
  refine⟨fun y hy=>?_,?_,?_⟩;apply x1 y;simp only[Vc]at hy|-;obtain(y1|y1)|y1:=hy;grind;exact .inr y1;grind;grind;grind
 have bc:=bg.c ae;refine aa (oI ak.r (a1.fr bc) (a3.fr (aj.c ax)) (by rw[e1,e3];exact ff.aj)) ?_;rintro _ bT ⟨t4,p4,rfl,a4,e4,a6⟩;simp only[a_,↓reduceIte,Nat.reduceEqDiff,g_,((ae.c a6).c_ ay).o];refine aa (oI a6.r a4 (a2.fr (bc.c a6)) (by rw[e4,e1,e3,e2];exact ff)) ?_;rintro _ bW ⟨t5,p5,rfl,a5,e5,bo⟩;simp only[a_,↓reduceIte,Nat.reduceEqDiff,g_];have aH:=(ae.c a6).c bo;apply u_ bo.r (aH.c_ or);rintro bi ac ab ar;simp only[a_,↓reduceIte,Nat.reduceEqDiff,Nat.reduceAdd,DF,g_,Nat.reduceSub,ac.J,(ae.c_ oa).o,(ax.c_ bk).o,(ae.c_ ay).o,((ae.c a6).c_ ay).o];exact⟨(an.c aH).y ab w b1,_,rfl,fO _,fun _=>⟨t5,p5,rfl,a5.aI ab (aH.c_ or) iS,by rw[e5,e4,e1,e3,e2],ff⟩⟩;simp only[a_,↓reduceIte,Nat.reduceEqDiff,h1];apply u_ ak.r (ae.c_ or);rintro bi ac ab ar;simp only[a_,↓reduceIte,Nat.reduceEqDiff,ac.J];exact⟨(an.c ae).y ab w b1,_,rfl,rfl,by simp[]⟩;simp only[a_,↓reduceIte,Nat.reduceEqDiff,h0];apply u_ aj.r (a7.c_ or);rintro bi ac ab ar;simp only[a_,↓reduceIte,Nat.reduceEqDiff,ac.J];have ei:vQ t.j_ i m=e:=by unfold vQ;rw[if_pos hi,if_neg oM,ee]
 rw[ei];exact⟨bf.y ab w b1,_,rfl,rfl,by simp[h0]⟩;rw[if_neg hi]at hu;subst hu;let⟨h4,ca,b7,cc⟩:=au F3.r [.K];let⟨h5,cb,b9,ci⟩:=au b7.r [.K];have af:=b7.c b9;have ne:h3.i≠h4.i:=by rw[ca];simp[lG]
 simp only[a_,↓reduceIte,Nat.reduceEqDiff,<-ca,<-cb];apply u_ af.r (b9.c_ cc);rintro h6 ba K bn;simp only[a_,↓reduceIte];apply u_ K.r (K.D _ _ oO ci);rintro h7 ay Z bm;simp only[a_,↓reduceIte,Nat.reduceEqDiff];simp only[a_,↓reduceIte,(oM:¬((4:Int)=0))];have b4:h.i<=h4.i:=VC b3 b7.i;have an:=((bj.c af).y K w b3).y Z w b4;have keep:∀{b:Nat}{c:List V},f_ h3 b c->f_ h7 b c:=fun o=>Z.D _ _ (by have:=o.lt F3.r;have:=b7.i;simp;omega) (K.D _ _ (by have:=o.lt F3.r;simp;omega) (af.c_ o));have or:=keep (F3.c_ cn);apply u_ Z.r or;rintro bi ac ab ar;simp only[a_,↓reduceIte,Nat.reduceEqDiff,ac.J];have ei:vQ t.j_ i m=4:=by unfold vQ;rw[if_neg hi]
 rw[ei];exact⟨an.y ab w b1,_,rfl,rfl,iS⟩
def sp(s:Int×Int):List V:=[ZZ s.1,ZZ s.2]
theorem eQ(s:Int×Int):(sp s).length=2:=rfl
theorem CV(s:Int×Int):aw (sp s)=true:=rfl
abbrev Sp(h:b_)(v:V)(L:List (Int×Int)):Prop:=o_ sp 2 h v L
def M6:List (Int×Int)->Int->Prop
 |[],_=>True
 |s::L,last=>last<s.1/\0<=s.1/\s.1<s.2/\s.2<=1073741824/\M6 L s.2
def L_(L:List (Int×Int))(i:Int):Bool:=L.any fun s=>decide (s.1<=i)&&decide (i<s.2)
theorem Sp.ix{h:b_}{v:V}{L:List (Int×Int)}(a:Sp h v L)(i:Nat)(Z:(i:Int)<L.length):
 ∃b o s,aP (.c 2) [v,ZZ i]=some (.u b o)/\ag h b o=some (ZZ s.1)/\ag h b (o+1)=some (ZZ s.2)/\aq h b o 2=some [ZZ s.1,ZZ s.2]/\L[i]? =some s:=by
 let⟨b,o,s,e,g,g2,K⟩:=Yj eQ a .i64 i oM Z;exact⟨b,o,s,e,by simpa[sp]using g 0 oM,by simpa[sp]using g 1 oM,g2,by simpa using K⟩
def T9(h:b_)(v:V)(L:List (Int×Int)):Prop:=(v=.j/\L=[])\/∃b,v=.z b 0 L.length L.length/\f_ h b (L.flatMap sp)/\0<L.length
theorem T9.be{h:b_}{v:V}{L:List (Int×Int)}(a:T9 h v L):Sp h v L:=by obtain⟨rfl,rfl⟩|⟨b,rfl,o,_⟩:=a;exact Yo;exact Wy o (aG eQ L)
theorem T9.fr{h:b_}{v:V}{L:List (Int×Int)}(a:T9 h v L)(f:Fr [] h h'):T9 h' v L:=by obtain x|⟨b,e,o,p⟩:=a;exact .inl x;exact .inr ⟨b,e,f.c_ o,p⟩
theorem T9.aI{h:b_}{v:V}{L:List (Int×Int)}{b:Nat}{c:List V}(a:T9 h v L)(f:Fr [b] h h')(o:f_ h b c)(K:∀L:List (Int×Int),0<L.length->c≠L.flatMap sp):T9 h' v L:=by obtain x|⟨q,e,Z,p⟩:=a;exact .inl x;refine .inr ⟨q,e,f.D _ _ ?_ Z,p⟩;simp;rintro rfl;exact K L p (o.ae Z)
theorem T9.O{h:b_}{v:V}{L:List (Int×Int)}(a:T9 h v L):v.O=true:=by obtain⟨rfl,_⟩|⟨b,rfl,_⟩:=a<;>rfl
theorem T9.aJ{h:b_}{v:V}{L:List (Int×Int)}(a:T9 h v L):∀k n,v≠.C k n:=by obtain⟨rfl,_⟩|⟨b,rfl,_⟩:=a<;>simp
theorem Ap{c:List V}(Z:∀x∈c,∀k n,x≠.C k n):∀L:List (Int×Int),0<L.length->c≠L.flatMap Lay.sp:=by
 intro L p e;cases L with
 |nil=>simp at p
 |cons s L=>exact Z (ZZ s.1) (by rw[e];simp[Lay.sp]) _ _ rfl
theorem Sp.aI{h:b_}{v:V}{L:List (Int×Int)}{b:Nat}{c c':List V}(a:Sp h v L)(f:Fr [b] h h')(o:f_ h b c)(o':f_ h' b c')(hc:∀x∈c,∀k n,x≠.C k n)(hl:c'.length=c.length):Sp h' v L:=by
 let⟨e1,e2⟩:=a;have K:∀(bb Z:Nat),(∃d,f_ h bb d/\Z+L.length*2<=d.length/\L.flatMap sp=(d.drop Z).take (L.length*2))->∃d,f_ h' bb d/\Z+L.length*2<=d.length/\L.flatMap sp=(d.drop Z).take (L.length*2):=by
  rintro bb Z ⟨d,od,h1,h2⟩;by_cases e:bb=b;subst e;have:=od.ae o;subst this;have hL:L=[]:=by
   cases L with
   |nil=>rfl
   |cons s L=>
    exfalso;have hm:ZZ s.1∈d:=by
     have:ZZ s.1∈(s::L).flatMap sp:=by simp[sp]
     rw[h2]at this;exact VU (Wl this)
    exact hc _ hm _ _ rfl
  subst hL;exact⟨c',o',by simpa[hl]using h1,iS⟩;exact⟨d,f.D _ _ (eV e) od,h1,h2⟩
 refine⟨e1,?_⟩;cases v with
 |z bb Z len cap=>let⟨x1,x2,x3⟩:=e2;exact⟨x1,x2,K bb Z x3⟩
 |L bb Z len cap=>let⟨x1,x2,x3⟩:=e2;exact⟨x1,x2,K bb Z x3⟩
 |_=>exact e2
theorem rF{h:b_}{v:V}{L:List (Int×Int)}(w:WF h)(a:Sp h v L)(ok:M6 L (-1))(hn:L.length<=4096):
 av go 255 [v] h fun u h'=>u=ZZ 0/\Fr [] h h':=by
 have hl:¬(4096:Int)<L.length:=oM
 refine ai ?_;simp[a_,a.M,hl];refine aC (fun k env hh=>Fr [] h hh/\∃(i:Nat)(Z:Int),env.c_ 11=some (ZZ i)/\env.c_ 3=some (ZZ Z)/\env.c_ 9=some v/\env.c_ 10=some (ZZ L.length)/\
  i<=L.length/\M6 (L.drop i) Z/\k=L.length-i) L.length oM ?_ ?_
 ·exact⟨Vk w,0,-1,iS,iS,iS,iS,oM,ok,rfl⟩
 ·rintro k env hh ⟨F,i,Z,ab,g3,g9,ae,hi,ok,rfl⟩;by_cases K:(i:Int)<L.length
  ·let⟨b,o,s,e1,e2,e3,e4,e5⟩:=Sp.ix (a.fr F) i K;rw[aN e5]at ok;let⟨k1,k2,k3,k4,k5⟩:=ok;let⟨h1,ar,ak,an⟩:=au F.r [ZZ 0,ZZ 0];simp only[a_,seval,ab,g9,ae,K,e1,e4,<-ar];refine u_ ak.r an ?_;rintro h2 ac af aj;simp(disch:=omega) only[a_,seval,ah,ab,g3,ac.o,(oM:¬s.1<0),(oM:¬s.2<=s.1),(oM:¬1073741824<s.2),(oM:¬s.1<=Z)];refine t_ ⟨L.length-(i+1),oM,F.c (ak.y af F.r (Ve _)),i+1,s.2,iS,iS,iX,iX,oM,k5,rfl⟩
   done
  ·simp[a_,ab,ae,K];exact F
def nu(L:List (Int×Int))(a b:Int):List (Int×Int):=if b<=a then L else match L.getLast? with
 |some s=>if a<=s.2 then L.dropLast++[(s.1,max s.2 b)]else L++[(a,b)]
 |none=>[(a,b)]
theorem pR(L M:List (Int×Int))(x:Int):L_ (L++M) x=(L_ L x||L_ M x):=by simp[L_]
theorem iD(s:Int×Int)(M:List (Int×Int))(x:Int):L_ (s::M) x=((decide (s.1<=x)&&decide (x<s.2))||L_ M x):=rfl
theorem mR(x:Int):L_ [] x=false:=rfl
theorem M6.h:∀{L:List (Int×Int)}{b:Int},M6 L b→∀s∈L,b<s.1∧0≤s.1∧s.1<s.2∧s.2≤1073741824
 |t::L,b,⟨h1,h2,h3,h4,h5⟩,s,hs=>by obtain rfl|hs:=List.mem_cons.1 hs;omega;have:=M6.h h5 s hs;omega
theorem M6.b{L:List (Int×Int)}{b x:Int}(ok:M6 L b)(h:x<=b):L_ L x=false:=by simp only[L_,Yv,Vd,decide_eq_true_eq];intro s Z;have:=ok.h s Z;omega
theorem M6.g:∀{L M:List (Int×Int)}{b c:Int},M6 L b→M6 M c→(∀s∈L,s.2≤c)→b≤c→M6 (L++M) b
 |[],M,b,c,_,hm,_,h=>by
  cases M with
  |nil=>trivial
  |cons s M=>let⟨a1,a2⟩:=hm;exact⟨oM,a2⟩
 |s::L,M,b,c,⟨h1,h2,h3,h4,h5⟩,hm,hb,h=>⟨h1,h2,h3,h4,M6.g h5 hm (fun t ht=>hb t iX) (hb s iS)⟩
theorem M6.f:∀{L M:List (Int×Int)}{b:Int},M6 (L++M) b->M6 L b
 |[],_,_,_=>trivial
 |s::L,M,b,⟨h1,h2,h3,h4,h5⟩=>⟨h1,h2,h3,h4,M6.f h5⟩
theorem M6.c:∀{L:List (Int×Int)}{b:Int}(i:Nat),M6 L b->∃c,M6 (L.drop i) c
 |[],b,i,h=>by simp;exact⟨b,trivial⟩
 |s::L,b,0,h=>⟨b,h⟩
 |s::L,b,i+1,⟨_,_,_,_,h⟩=>M6.c i h
theorem M6.d:∀{L:List (Int×Int)}{s:Int×Int}{b:Int},M6 (L++[s]) b→(∀t∈L,t.2<s.1)∧b<s.1∧0≤s.1∧s.1<s.2∧s.2≤1073741824
 |[],s,b,⟨h1,h2,h3,h4,_⟩=>⟨iS,h1,h2,h3,h4⟩
 |t::L,s,b,⟨h1,h2,h3,h4,h5⟩=>by let⟨a,c,d⟩:=M6.d h5;exact⟨by simp only[List.mem_cons,forall_eq_or_imp];exact⟨c,a⟩,oM,d⟩
theorem M6.a:∀{L:List (Int×Int)}{b:Int},M6 L b→∀m,(∀s∈L,s.2≤m)→b≤m+0→2*(L.length:Int)≤m-b
 |[],b,_,m,_,h=>by simp;omega
 |s::L,b,⟨h1,h2,h3,h4,h5⟩,m,hm,h=>by have:=M6.a h5 m (fun t ht=>hm t iX) (by have:=hm s iS;omega);simp only[List.length_cons];omega
theorem gw{L:List (Int×Int)}{a b:Int}(ok:M6 L (-1))(Z:a<b->∀s∈L,s.2<=a)(h0:0<=a)(K:b<=1073741824):
 M6 (nu L a b) (-1)/\(∀x,L_ (nu L a b) x=(L_ L x||(decide (a<=x)&&decide (x<b))))/\(∀m,(∀s∈L,s.2<=m)->(a<b->b<=m)->∀s∈nu L a b,s.2<=m):=by
 unfold nu;by_cases h:b<=a;grind;rw[if_neg h];have Z:=Z oM;obtain rfl|⟨L',s,rfl⟩:=List.eq_nil_or_concat L;simp only[List.getLast?_nil];refine⟨⟨by simp;omega,by simp;omega,by simp;omega,K,trivial⟩,fun x=>by simp[L_],fun m _ hm s hs=>?_⟩;simp at hs;subst hs;exact hm oM;simp only[List.concat_eq_append]at ok Z|-;simp only[YF,Yp,Option.some_or,List.dropLast_concat];let⟨k1,k2,k3,k4,k5⟩:=ok.d;have hs:=Z s iS;by_cases hc:a<=s.2;rw[if_pos hc];have e:max s.2 b=b:=oM;rw[e];refine⟨M6.g (c:=s.1-1) ok.f ⟨by simp;omega,k3,by simp;omega,K,trivial⟩ (fun t ht=>by have:=k1 t ht;omega) oM,fun x=>?_,fun m hm hbm t ht=>?_⟩;simp[pR,iD,mR,Bool.or_assoc];congr 1;rw[Xr];simp;omega;grind;rw[if_neg hc];refine⟨M6.g (c:=a-1) ok ⟨by simp;omega,h0,by simp;omega,K,trivial⟩ (fun t ht=>?_) oM,fun x=>?_,fun m hm hbm t ht=>?_⟩;grind;simp only[pR,iD,mR,XL];grind
theorem pj{h:b_}{B:Nat}{v:V}{L:List (Int×Int)}{a b:Int}(w:WF h)(g:Q1 sp 2 h B v L)(hB:B<=h.i)(hn:(L.length:Int)<=1073741824):
 av go 209 [v,ZZ a,ZZ b] h fun u h'=>Q1 sp 2 h' B u (nu L a b)/\Fr (vb v) h h':=by
 have s:=g.ay eQ oM;by_cases h1:b<=a;refine ai ?_;simp[a_,s.M,h1];unfold nu;rw[if_pos h1];exact⟨g,Vk w⟩;obtain rfl|⟨L',t,rfl⟩:=List.eq_nil_or_concat L;obtain⟨ab,K⟩:∃ab,ab=k_ h (sp (a,b)):=⟨_,rfl⟩;have Z:Fr [] h ab:=K▸VL w _;have ac:f_ ab h.i (sp (a,b)):=K▸Wi w _;have ae:k_ h [ZZ a,ZZ b]=ab:=K.symm;have hz:aP .d [v]=some (ZZ 0):=s.M;refine ai ?_;simp[a_,hz,h1,ae];refine Q1.aA (x:=(a,b)) Z.r (g.fr Z) eQ (CV _) oM ac (VC hB Z.i) iS ?_;intro v' h' g' u;simp[a_];unfold nu;rw[if_neg h1];exact⟨g',Z.P u w iS (fun x hx=>.inl hx)⟩;simp only[List.concat_eq_append]at g s hn|-;have af:((L'++[t]).length:Int)=L'.length+1:=by simp
 let⟨bb,oo,x,e1,e2,e3,e4,e5⟩:=Sp.ix s L'.length oM;have hx:x=t:=by simpa using e5.symm
 subst hx;have pos:(0:Int)<L'.length+1:=oM;have es:(L'.length:Int)+1-1=L'.length:=oM;by_cases h2:a<=x.2;obtain⟨rfl,gg⟩|⟨b0,n0,rfl,ak,ay,ar,og⟩:=g;have:=congrArg List.length gg;rw[aG eQ]at this;simp at this;rw[aG eQ]at ak;have e0:n0=L'.length+1:=by simp at ak;omega
 subst e0;have aj:=lZ 2 b0 0 (L'.length+1) 2 .i64 L'.length oM oM;rw[e1]at aj;simp only[Vl,V.u.injEq,pi]at aj;obtain⟨rfl,rfl⟩:=aj;simp at e1 e3;refine ai ?_;simp(disch:=omega)[a_,ah,h1,e1,e3,h2];have ax:(L'++[x]).flatMap sp=L'.flatMap sp++[ZZ x.1,ZZ x.2]:=by simp[sp]
 rw[ax]at og;have hu:bq (L'.flatMap sp++[ZZ x.1,ZZ x.2]) (L'.length*2+1) [ZZ (max x.2 b)]=some (L'.flatMap sp++[ZZ x.1,ZZ (max x.2 b)]):=by have an:(L'.flatMap sp).length=L'.length*2:=aG eQ L';rw[bN _ _ _ iX];congr 1;rw[Yi,Vm oM,Vq iX];rw[an,(oM:L'.length*2+1-L'.length*2=1)];simp
 refine ao (c':=_) (v:=ZZ (max x.2 b)) (o:=L'.length*2+1) w og rfl rfl hu ?_;intro h' o' F' n';simp[a_];unfold nu;rw[if_neg h1];simp[if_pos h2];refine⟨.inr ⟨bb,L'.length+1,rfl,by rw[aG eQ];simp,oM,ar,?_⟩,F'⟩;rw[Wx];simpa[sp]using o';obtain⟨ab,K⟩:∃ab,ab=k_ h (sp (a,b)):=⟨_,rfl⟩;have Z:Fr [] h ab:=K▸VL w _;have ac:f_ ab h.i (sp (a,b)):=K▸Wi w _;have ae:k_ h [ZZ a,ZZ b]=ab:=K.symm;refine ai ?_;simp(disch:=omega)[a_,ah,s.M,h1,e1,e3,h2,ae];refine Q1.aA (x:=(a,b)) Z.r (g.fr Z) eQ (CV _) oM ac (VC hB Z.i) oO ?_;intro v' h' g' u;simp[a_];unfold nu;rw[if_neg h1];simp only[YF,Yp,Option.some_or,if_neg h2];exact⟨g',Z.P u w iS (fun x hx=>.inl hx)⟩
theorem Lr{h:b_}{B:Nat}{v:V}{L:List (Int×Int)}(g:Q1 sp 2 h B v L):av go 258 [v] h fun u h'=>T9 h u L/\u.O=true/\h'=h:=by
 have s:=g.ay eQ oM;obtain⟨rfl,gg⟩|⟨b0,n0,rfl,Z,ab,ac,og⟩:=g;have e:aP (.s none 2 false true true) [.j,ZZ (L.length:Int),ZZ (L.length:Int)]=some .j:=by
  have:L=[]:=by have:=congrArg List.length gg;rw[aG eQ,XU]at this;exact VH.1 oM
  subst this;rfl
 have hz:aP .d [.j]=some (ZZ (L.length:Int)):=s.M;refine ai ?_;simp only[DZ,DX,D0,jV,zF,Lc,La,JM,tf,tc,yH,yG,rU,jn,Du,dP,gR,dg,bX,db,mX,iU,WB,qv,qt,pW,yS,mF,DO,hz,e,seval];exact⟨.inl ⟨rfl,by have:=congrArg List.length gg;rw[aG eQ,XU]at this;exact VH.1 oM⟩,rfl,trivial⟩;rw[aG eQ]at Z;have e0:n0=L.length:=oM;subst e0;have K:aZ L.length L.length false true true [ZZ (L.length:Int),ZZ (L.length:Int)]=some (0,L.length,some L.length):=by simp[aZ,bZ .i64 (L.length:Int) L.length oM oM]
 have e:aP (.s none 2 false true true) [.L b0 0 L.length 2,ZZ (L.length:Int),ZZ (L.length:Int)]=some (.z b0 0 L.length L.length):=by have hq:(Nat.beq 2 2&&Nat.blt 0 2)=true:=rfl;simp only[aP,eJ,hq,cond_true,K,VX,fD (oM:L.length≠0),cond_false,YO,Yl,Xm]
 refine ai ?_;simp[a_,e];exact⟨.inr ⟨b0,rfl,og,ab⟩,rfl⟩
theorem sU{h:b_}{B:Nat}{v:V}{L:List (Int×Int)}(g:Q1 sp 2 h B v L)(Z:L.length<=4096):av go 210 [v] h fun u h'=>∃z,u=.G [z,ZZ 0]/\T9 h z L/\z.O=true/\h'=h:=by have s:=g.ay eQ oM;refine ai ?_;simp[a_,s.M,(oM:¬(4096:Int)<L.length)];refine aa (Lr g) ?_;rintro z _ ⟨a,b,rfl⟩;simp only[a_,seval];exact⟨z,rfl,a,b⟩
theorem yW{h:b_}{s:Int×Int}{a:Int}(w:WF h):av go 291 [.B [ZZ s.1,ZZ s.2],ZZ a] h fun u h'=>u=ZZ (if a<s.1 then s.1 else s.2)/\Fr [] h h':=by let⟨h1,K,ab,Z⟩:=au w [ZZ s.1,ZZ s.2];by_cases c:a<s.1;refine ai ?_;simp[a_,<-K,Z.o,c];exact ab;refine ai ?_;simp[a_,<-K,Z.o,c];exact ab
theorem KM{h:b_}{u v:V}{A B:List (Int×Int)}(w:WF h)(a:Sp h u A)(b:Sp h v B)(ab:M6 A (-1))(K:M6 B (-1))(ha:A.length<=4096)(hb:B.length<=4096):
 av go 290 [u,v] h fun u h'=>u=ZZ 0/\Fr [] h h':=by
 refine ai ?_;simp[a_];refine aa (rF w a ab ha) ?_;rintro _ h1 ⟨rfl,Z⟩;simp[a_];apply aa (rF Z.r (b.fr Z) K hb);rintro _ h2 ⟨rfl,F2⟩;simp[a_];exact Z.c F2
def S6(A:List (Int×Int))(a:Int):Nat:=(A.map fun s=>(if a<s.1 then 1 else 0)+(if a<s.2 then 1 else 0)).sum
theorem lR(s:Int×Int)(A:List (Int×Int))(a:Int):S6 (s::A) a=(if a<s.1 then 1 else 0)+(if a<s.2 then 1 else 0)+S6 A a:=by simp[S6]
theorem pc:∀(A:List (Int×Int)){a e:Int},a≤e→S6 A e≤S6 A a
 |[],_,_,_=>Nat.le_refl _
 |s::A,a,e,h=>by have:=pc A h;rw[lR,lR];by_cases c1:e<s.1<;>by_cases c2:e<s.2<;>by_cases c3:a<s.1<;>by_cases c4:a<s.2<;>simp[c1,c2,c3,c4]<;>omega
theorem uT:∀(A:List (Int×Int)){a e:Int}{s:Int×Int},a<e→s∈A→(s.1=e∨s.2=e)→S6 A e<S6 A a
 |t::A,a,e,s,h,hs,hse=>by rw[lR,lR];have hle:=pc A (Int.le_of_lt h);obtain rfl|hs:=List.mem_cons.1 hs;grind;have:=uT A h hs hse;by_cases c1:e<t.1<;>by_cases c2:e<t.2<;>by_cases c3:a<t.1<;>by_cases c4:a<t.2<;>simp[c1,c2,c3,c4]<;>omega
theorem Dw(A:List (Int×Int))(a:Int):S6 A a<=2*A.length:=by
 induction A with
 |nil=>simp[S6]
 |cons s A ih=>rw[lR];simp;by_cases K:a<s.1<;>by_cases Z:a<s.2<;>simp[K,Z]<;>omega
def vR(D:List (Int×Int))(a:Int):Bool:=match D with
 |[]=>false
 |s::_=>decide (s.1<=a)
def nM(D:List (Int×Int))(a:Int):Int:=match D with
 |[]=>1073741824
 |s::_=>if a<s.1 then s.1 else s.2
theorem seg{D:List (Int×Int)}{Z a x:Int}(ok:M6 D Z)(hx:a<=x)(hD:∀s D',D=s::D'->a<s.2)(K:x<nM D a):L_ D x=vR D a:=by
 cases D with
 |nil=>rfl
 |cons s D=>let⟨h1,h2,h3,h4,h5⟩:=ok;have:=hD s D rfl;simp[nM]at K;rw[iD,M6.b h5 (by split at K<;>omega),XL];simp[vR];rw[Xr];simp;split at K<;>omega
theorem mQ{A:List (Int×Int)}{i:Nat}{a x:Int}(h:∀s∈A.take i,s.2<=a)(K:a<=x):L_ A x=L_ (A.drop i) x:=by
 conv=>lhs;rw[<-VA i A]
 rw[pR];have:L_ (A.take i) x=false:=by simp only[L_,Yv,Vd,decide_eq_true_eq];intro s Z;have:=h s Z;omega
 rw[this,Xj]
theorem Gq{A:List (Int×Int)}{i:Nat}{s:Int×Int}{a:Int}(h:∀s∈A.take i,s.2<=a)(e:A[i]? =some s)(Z:s.2<=a):∀s∈A.take (i+1),s.2<=a:=by intro t ht;rw[Vs,e]at ht;simp at ht;obtain ht|rfl:=ht;exact h t ht;exact Z
theorem CW{h:b_}{v:V}{A:List (Int×Int)}{env:T V}{at':Int}{i:Nat}{Q:Ex->T V->b_->Prop}{c:IC}(sv Z sz:Nat)(hA:A.length<=4096)(K:Z≠10/\sz≠10/\sv≠Z/\sv≠sz/\Z≠sz)(id:Nat)
 (a:Sp h v A) (gv:env.c_ sv=some v) (af:env.c_ 10=some (ZZ at')) (gx:env.c_ Z=some (ZZ i)) (hi:i<=A.length) (hb:∀s∈A.take i,s.2<=at')
 (body:∀(env:T V)(i:Nat)(Q:Ex->T V->b_->Prop),env.c_ sv=some v->env.c_ 10=some (ZZ at')->env.c_ Z=some (ZZ i)->i<=A.length->
  (∀env',env'.c_ Z=some (ZZ ((i:Int)+1))->(∀s,s≠Z->s≠sz->env'.c_ s=env.c_ s)->(∃s,A[i]? =some s/\s.2<=at')->Q .a env' h)->
  (∀env',(∀s,s≠sz->env'.c_ s=env.c_ s)->(∀s,A[i]? =some s->at'<s.2)->Q (.c id) env' h)->W go c env h Q)
 (k:∀env' (j:Nat),env'.c_ Z=some (ZZ j)->(∀s,s≠Z->s≠sz->env'.c_ s=env.c_ s)->j<=A.length->(∀s∈A.take j,s.2<=at')->(∀s,A[j]? =some s->at'<s.2)->Q (.c id) env' h):
 W go (.n c) env h Q:=by
 refine aC (fun k env' hh=>hh=h/\(∀s,s≠Z->s≠sz->env'.c_ s=env.c_ s)/\∃j:Nat,env'.c_ Z=some (ZZ j)/\j<=A.length/\(∀s∈A.take j,s.2<=at')/\k=A.length-j) (A.length-i) oM ?_ ?_;grind;rintro k' ac hh ⟨rfl,same,j,gj,hj,ae,rfl⟩;refine body ac j _ ((same sv K.2.2.1 K.2.2.2.1).trans gv) ((same 10 (WW K.1) (WW K.2.1)).trans af) gj hj ?_ ?_;rintro ab e1 e2 ⟨s,es,hs⟩;have aj:j<A.length:=by grind
 exact t_ ⟨A.length-(j+1),oM,rfl,fun s a1 a2=>(e2 s a1 a2).trans (same s a1 a2),j+1,by simpa using e1,oM,Gq ae es hs,rfl⟩;intro ab e2 hs;exact(kQ _ _ _ _).2 (k ab j ((e2 Z K.2.2.2.2).trans gj) (fun s a1 a2=>(e2 s a2).trans (same s a1 a2)) hj ae hs)
structure Keep(kf:V)(keep:Bool->Bool->Bool):Prop where
 d:∃g,kf=.I (.func g) [] []/\g<1099511627776/\∀h a b,av go g [.h a,.h b] h fun u h'=>u=.h (keep a b)/\h'=h
 c:keep false false=false
theorem wP{h:b_}{u v kf:V}{A B:List (Int×Int)}{keep:Bool->Bool->Bool}(w:WF h)(a:Sp h u A)(b:Sp h v B)(bm:M6 A (-1))(bg:M6 B (-1))(ha:A.length<=4096)(hb:B.length<=4096)
 (hk:Keep kf keep) (m:Int) (hm:m<=8000) (bz:∀s∈A,s.2<=m) (bp:∀s∈B,s.2<=m):
 av go 269 [u,v,kf] h fun z h'=>Fr [] h h'/\∃y L,z=.G [y,ZZ 0]/\y.O=true/\T9 h' y L/\M6 L (-1)/\(∀x,L_ L x=keep (L_ A x) (L_ B x))/\∀s∈L,s.2<=max m 0:=by
 refine ai ?_;simp only[a_,seval];refine I0 ?_;simp only[a_,seval];refine aa (KM w a b bm bg ha hb) ?_;rintro _ h1 ⟨rfl,F1⟩;simp only[a_,seval];obtain⟨g,rfl,bi,bh⟩:=hk.d;have below:∀(O:List (Int×Int)){c:Int},(∀s∈O,s.2<=c)->∀x,c<=x->L_ O x=false:=by intro O c hO x hx;simp only[L_,Yv,Vd,decide_eq_true_eq];intro s Z;have:=hO s Z;omega
 refine aC (fun k env hh=>∃(i j:Nat)(at':Int)(vo:V)(O:List (Int×Int)),Fr [] h hh/\env.c_ 0=some u/\env.c_ 1=some v/\env.c_ 2=some (.I (.func g) [] [])/\env.c_ 9=some vo/\
  env.c_ 10=some (ZZ at')/\env.c_ 11=some (ZZ i)/\env.c_ 12=some (ZZ j)/\i<=A.length/\j<=B.length/\0<=at'/\at'<=max m 0/\(∀s∈A.take i,s.2<=at')/\(∀s∈B.take j,s.2<=at')/\
  Q1 sp 2 hh h.i vo O/\M6 O (-1)/\(∀s∈O,s.2<=at')/\(∀x,x<at'->L_ O x=keep (L_ A x) (L_ B x))/\k=S6 A at'+S6 B at') (S6 A 0+S6 B 0) (by have:=Dw A 0;have:=Dw B 0;omega) ?_ ?_
 refine⟨0,0,0,.j,[],F1,iS,iS,iS,iS,iS,iS,iS,oM,oM,oM,oM,iS,iS,Q1.D_,trivial,iS,?_,rfl⟩;intro x hx;rw[bm.b oM,bg.b oM,hk.c];rfl;rintro k env hh ⟨i,j,at',vo,O,F,g0,g1,g2,g9,ax,ar,g12,hi,hj,at0,atm,hbi,hbj,gO,okO,mO,sO,rfl⟩;simp only[a_];refine CW 0 11 34 ha oM 2 (a.fr F) g0 ax ar hi hbi ?_ ?_;intro env i Q g0 ax ar hi hn hx;by_cases ay:(i:Int)<A.length;let⟨bb,oo,s,e1,e2,e3,e4,e5⟩:=Sp.ix (a.fr F) i ay;by_cases Z:s.2<=at';simp(disch:=omega)[a_,ah,g0,ax,ar,(a.fr F).M,ay,e1,e3,Z];exact hn _ iS (fun s h1 h2=>by simp[h1,h2]) ⟨s,e5,Z⟩;simp[a_,g0,ax,ar,(a.fr F).M,ay,e1,e3,Z];exact hx _ (fun s h1=>by simp[h1]) (fun t ht=>by rw[e5]at ht;cases ht;omega);simp[a_,g0,ar,(a.fr F).M,ay];exact hx _ (fun s h1=>by simp[h1]) (fun t ht=>by rw[Wu oM]at ht;cases ht);intro bo i1 bc ac a4 a0 bv;have bt:=(ac 0 oM oM).trans g0;have bk:=(ac 1 oM oM).trans g1;have br:=(ac 2 oM oM).trans g2;have bn:=(ac 9 oM oM).trans g9;have a9:=(ac 10 oM oM).trans ax;have ba:=(ac 12 oM oM).trans g12;simp only[a_,seval];refine CW 1 12 49 hb oM 4 (b.fr F) bk a9 ba hj hbj ?_ ?_;intro env i Q g0 ax ar hi hn hx;by_cases ay:(i:Int)<B.length;let⟨bb,oo,s,e1,e2,e3,e4,e5⟩:=Sp.ix (b.fr F) i ay;by_cases Z:s.2<=at';simp(disch:=omega)[a_,ah,g0,ax,ar,(b.fr F).M,ay,e1,e3,Z];exact hn _ iS (fun s h1 h2=>by simp[h1,h2]) ⟨s,e5,Z⟩;simp[a_,g0,ax,ar,(b.fr F).M,ay,e1,e3,Z];exact hx _ (fun s h1=>by simp[h1]) (fun t ht=>by rw[e5]at ht;cases ht;omega);simp[a_,g0,ar,(b.fr F).M,ay];exact hx _ (fun s h1=>by simp[h1]) (fun t ht=>by rw[Wu oM]at ht;cases ht);intro bD j1 aj ab a3 aH bf;have n0:=(ab 0 oM oM).trans bt;have n1:=(ab 1 oM oM).trans bk;have n2:=(ab 2 oM oM).trans br;have n9:=(ab 9 oM oM).trans bn;have a6:=(ab 10 oM oM).trans a9;have a5:=(ab 11 oM oM).trans bc;clear ac ab bt bk br bn a9 bc ba g0 g1 g2 g9 ax ar g12 hbi hbj hi hj env bo;let⟨ca,b9⟩:=bm.c i1;let⟨cb,okB⟩:=bg.c j1;have ae:∀x,at'<=x->x<nM (A.drop i1) at'->L_ A x=vR (A.drop i1) at':=fun x h1 h2=>by rw[mQ a0 h1,seg b9 h1 (fun s D' e=>bv s (by rw[<-List.head?_drop,e];rfl)) h2]
 have K:∀x,at'<=x->x<nM (B.drop j1) at'->L_ B x=vR (B.drop j1) at':=fun x h1 h2=>by rw[mQ aH h1,seg okB h1 (fun s D' e=>bf s (by rw[<-List.head?_drop,e];rfl)) h2]
 by_cases cA:(i1:Int)<A.length;let⟨bA,oA,s,ch,cc,cj,ce,bV⟩:=Sp.ix (a.fr F) i1 cA;have eD:=aN bV;rw[eD]at ae b9;simp[nM,vR]at ae;have sm:=bz s (Vg bV);have s2:=bv s bV;let⟨q1,q2,q3,q4,_⟩:=b9;simp only[a_,seval,n0,a6,a5,(a.fr F).M,cA,ch,cc,ce];refine aa (yW F.r) ?_;rintro _ h3 ⟨rfl,F3⟩;have FH:=F.c F3;obtain⟨eA,bw⟩:∃eA,eA=if at'<s.1 then s.1 else s.2:=⟨_,rfl⟩;rw[<-bw]at ae|-;have bE:at'<eA/\eA<=m/\eA<=1073741824/\(s.1=eA\/s.2=eA):=oM;by_cases cB:(j1:Int)<B.length;let⟨bB,oB,t,bW,b7,ci,b6,bT⟩:=Sp.ix (b.fr FH) j1 cB;have eE:=aN bT;rw[eE]at K okB;simp[nM,vR]at K;have tm:=bp t (Vg bT);have t2:=bf t bT;let⟨r1,r2,r3,r4,_⟩:=okB;simp only[a_,seval,n1,a6,aj,(b.fr FH).M,cB,bW,b7,b6];refine aa (yW F3.r) ?_;rintro _ h4 ⟨rfl,F4⟩;have FH:=FH.c F4;have ak:=gO.fr (F3.c F4);obtain⟨eB,bj⟩:∃eB,eB=if at'<t.1 then t.1 else t.2:=⟨_,rfl⟩;rw[<-bj]at K|-;have bC:at'<eB/\eB<=m/\eB<=1073741824/\(t.1=eB\/t.2=eB):=oM;simp only[a_,seval,n0,n2,a5,(a.fr FH).M,(oM:¬(i1:Int)=A.length)];obtain⟨e,he⟩:∃e,e=min (min 1073741824 eA) eB:=⟨_,rfl⟩;rw[<-he];have hA:∀x,at'<=x->x<e->L_ A x=decide (s.1<=at'):=fun x h1 h2=>ae x h1 oM;have hB:∀x,at'<=x->x<e->L_ B x=decide (t.1<=at'):=fun x h1 h2=>K x h1 oM;have a1:e<=max m 0:=oM;have af:S6 A e+S6 B e<S6 A at'+S6 B at':=by by_cases c:eA<=eB;have:=uT A (a:=at') (e:=e) oM (Vg bV) oM;have:=pc B (a:=at') (e:=e) oM;omega;have:=uT B (a:=at') (e:=e) oM (Vg bT) oM;have:=pc A (a:=at') (e:=e) oM;omega
 have cO:=okO.a at' mO oM;refine⟨bi,aa (bh _ _ _) ?_⟩;rintro _ _ ⟨rfl,a2⟩;subst a2;cases a7:keep (decide (s.1<=at')) (decide (t.1<=at'));simp only[a_,seval];refine t_ ⟨S6 A e+S6 B e,af,i1,j1,e,vo,O,FH,iX,iX,iX,iX,iS,iX,iX,a4,a3,oM,a1,fun s Z=>by have:=a0 s Z;omega,fun s Z=>by have:=aH s Z;omega,ak,okO,fun s Z=>by have:=mO s Z;omega,?_,rfl⟩;intro x hx;by_cases an:x<at';exact sO x an;grind;simp only[a_,seval,n9,a6];refine aa (pj FH.r ak FH.i oM) ?_;rintro a8 h9 ⟨g9,U9⟩;replace U9:=Gs.up ak U9;simp only[a_,seval];let⟨s1,s2,s3⟩:=gw (a:=at') (b:=e) okO (fun _=>mO) at0 oM;refine t_ ⟨S6 A e+S6 B e,af,i1,j1,e,a8,nu O at' e,FH.br w U9,iX,iX,iX,iS,iS,iX,iX,a4,a3,oM,a1,fun s Z=>by have:=a0 s Z;omega,fun s Z=>by have:=aH s Z;omega,g9,s1,s3 e (fun s Z=>by have:=mO s Z;omega) (fun _=>Int.le_refl _),?_,rfl⟩;intro x hx;rw[s2 x];by_cases an:x<at';grind;grind;have ak:=gO.fr F3;rw[Vq oM]at K;simp[nM,vR]at K;simp only[a_,seval,n0,n1,n2,a5,aj,(a.fr FH).M,(b.fr FH).M,cB,(oM:¬(i1:Int)=A.length)];obtain⟨e,he⟩:∃e,e=min 1073741824 eA:=⟨_,rfl⟩;rw[<-he];have hA:∀x,at'<=x->x<e->L_ A x=decide (s.1<=at'):=fun x h1 h2=>ae x h1 oM;have hB:∀x,at'<=x->x<e->L_ B x=false:=fun x h1 h2=>K x h1 oM;have a1:e<=max m 0:=oM;have af:S6 A e+S6 B e<S6 A at'+S6 B at':=by have:=uT A (a:=at') (e:=e) oM (Vg bV) oM;have:=pc B (a:=at') (e:=e) oM;omega
 have cO:=okO.a at' mO oM;refine⟨bi,aa (bh _ _ _) ?_⟩;rintro _ _ ⟨rfl,a2⟩;subst a2;cases a7:keep (decide (s.1<=at')) (false);simp only[a_,seval];refine t_ ⟨S6 A e+S6 B e,af,i1,j1,e,vo,O,FH,iX,iX,iX,iX,iS,iX,iX,a4,a3,oM,a1,fun s Z=>by have:=a0 s Z;omega,fun s Z=>by have:=aH s Z;omega,ak,okO,fun s Z=>by have:=mO s Z;omega,?_,rfl⟩;intro x hx;by_cases an:x<at';exact sO x an;grind;simp only[a_,seval,n9,a6];refine aa (pj FH.r ak FH.i oM) ?_;rintro a8 h9 ⟨g9,U9⟩;replace U9:=Gs.up ak U9;simp only[a_,seval];let⟨s1,s2,s3⟩:=gw (a:=at') (b:=e) okO (fun _=>mO) at0 oM;refine t_ ⟨S6 A e+S6 B e,af,i1,j1,e,a8,nu O at' e,FH.br w U9,iX,iX,iX,iS,iS,iX,iX,a4,a3,oM,a1,fun s Z=>by have:=a0 s Z;omega,fun s Z=>by have:=aH s Z;omega,g9,s1,s3 e (fun s Z=>by have:=mO s Z;omega) (fun _=>Int.le_refl _),?_,rfl⟩;intro x hx;rw[s2 x];by_cases an:x<at';grind;grind;rw[Vq oM]at ae;simp[nM,vR]at ae;have FH:=F;by_cases cB:(j1:Int)<B.length;let⟨bB,oB,t,bW,b7,ci,b6,bT⟩:=Sp.ix (b.fr FH) j1 cB;have eE:=aN bT;rw[eE]at K okB;simp[nM,vR]at K;have tm:=bp t (Vg bT);have t2:=bf t bT;let⟨r1,r2,r3,r4,_⟩:=okB;simp only[a_,seval,n0,n1,a6,a5,aj,(a.fr FH).M,(b.fr FH).M,cA,cB,bW,b7,b6];refine aa (yW FH.r) ?_;rintro _ h4 ⟨rfl,F4⟩;have FH:=FH.c F4;have ak:=gO.fr F4;obtain⟨eB,bj⟩:∃eB,eB=if at'<t.1 then t.1 else t.2:=⟨_,rfl⟩;rw[<-bj]at K|-;have bC:at'<eB/\eB<=m/\eB<=1073741824/\(t.1=eB\/t.2=eB):=oM;simp only[a_,seval,n0,n1,n2,a5,aj,(a.fr FH).M,(b.fr FH).M,eq_true (oM:(i1:Int)=A.length),(oM:¬(j1:Int)=B.length)];obtain⟨e,he⟩:∃e,e=min 1073741824 eB:=⟨_,rfl⟩;rw[<-he];have hA:∀x,at'<=x->x<e->L_ A x=false:=fun x h1 h2=>ae x h1 oM;have hB:∀x,at'<=x->x<e->L_ B x=decide (t.1<=at'):=fun x h1 h2=>K x h1 oM;have a1:e<=max m 0:=oM;have af:S6 A e+S6 B e<S6 A at'+S6 B at':=by have:=uT B (a:=at') (e:=e) oM (Vg bT) oM;have:=pc A (a:=at') (e:=e) oM;omega
 have cO:=okO.a at' mO oM;refine⟨bi,aa (bh _ _ _) ?_⟩;rintro _ _ ⟨rfl,a2⟩;subst a2;cases a7:keep (false) (decide (t.1<=at'));simp only[a_,seval];refine t_ ⟨S6 A e+S6 B e,af,i1,j1,e,vo,O,FH,iX,iX,iX,iX,iS,iX,iX,a4,a3,oM,a1,fun s Z=>by have:=a0 s Z;omega,fun s Z=>by have:=aH s Z;omega,ak,okO,fun s Z=>by have:=mO s Z;omega,?_,rfl⟩;intro x hx;by_cases an:x<at';exact sO x an;grind;simp only[a_,seval,n9,a6];refine aa (pj FH.r ak FH.i oM) ?_;rintro a8 h9 ⟨g9,U9⟩;replace U9:=Gs.up ak U9;simp only[a_,seval];let⟨s1,s2,s3⟩:=gw (a:=at') (b:=e) okO (fun _=>mO) at0 oM;refine t_ ⟨S6 A e+S6 B e,af,i1,j1,e,a8,nu O at' e,FH.br w U9,iX,iX,iX,iS,iS,iX,iX,a4,a3,oM,a1,fun s Z=>by have:=a0 s Z;omega,fun s Z=>by have:=aH s Z;omega,g9,s1,s3 e (fun s Z=>by have:=mO s Z;omega) (fun _=>Int.le_refl _),?_,rfl⟩;intro x hx;rw[s2 x];by_cases an:x<at';grind;grind;rw[Vq oM]at K;simp[nM,vR]at K;simp only[a_,seval,n0,n1,n9,a5,aj,(a.fr FH).M,(b.fr FH).M,cA,cB,eq_true (oM:(i1:Int)=A.length),eq_true (oM:(j1:Int)=B.length)];have cO:=okO.a at' mO oM;refine aa (sU gO oM) ?_;rintro _ _ ⟨z,rfl,sz,oz,a2⟩;subst a2;simp only[a_,seval];refine⟨FH,z,O,rfl,oz,sz,okO,fun x=>?_,fun s Z=>by have:=mO s Z;omega⟩;by_cases an:x<at';exact sO x an;rw[below O mO x oM,mQ a0 (oM:at'<=x),mQ aH (oM:at'<=x),Vq oM,Vq oM];simp[L_,hk.c]
theorem Ka:Keep (.I (.func 271) [] []) (fun a b=>a||b):=by
 refine⟨⟨271,rfl,dI,fun h a b=>?_⟩,rfl⟩;cases a;refine ai ?_;simp only[a_,seval];cases b<;>rfl
 refine ai ?_;simp only[a_,seval];rfl
theorem HJ:Keep (.I (.func 270) [] []) (fun a b=>a&& !b):=by refine⟨⟨270,rfl,dI,fun h a b=>?_⟩,rfl⟩;cases a;refine ai ?_;simp only[a_,seval];rfl;refine ai ?_;simp only[a_,seval];cases b<;>rfl
theorem I6{h:b_}{u v:V}{A B:List (Int×Int)}(w:WF h)(a:Sp h u A)(b:Sp h v B)(ac:M6 A (-1))(K:M6 B (-1))(ha:A.length<=4096)(hb:B.length<=4096)
 (m:Int) (hm:m<=8000) (Z:∀s∈A,s.2<=m) (ab:∀s∈B,s.2<=m):
 av go 236 [u,v] h fun z h'=>Fr [] h h'/\∃y L,z=.G [y,ZZ 0]/\y.O=true/\T9 h' y L/\M6 L (-1)/\(∀x,L_ L x=(L_ A x||L_ B x))/\∀s∈L,s.2<=max m 0:=by
 refine ai ?_;simp only[a_,seval];refine aa (wP w a b ac K ha hb Ka m hm Z ab) ?_;rintro _ h1 ⟨F,y,L,rfl,r⟩;simp only[a_,seval];exact⟨F,y,L,rfl,r⟩
theorem CI{h:b_}{u v:V}{A B:List (Int×Int)}(w:WF h)(a:Sp h u A)(b:Sp h v B)(ac:M6 A (-1))(K:M6 B (-1))(ha:A.length<=4096)(hb:B.length<=4096)
 (m:Int) (hm:m<=8000) (Z:∀s∈A,s.2<=m) (ab:∀s∈B,s.2<=m):
 av go 235 [u,v] h fun z h'=>Fr [] h h'/\∃y L,z=.G [y,ZZ 0]/\y.O=true/\T9 h' y L/\M6 L (-1)/\(∀x,L_ L x=(L_ A x&& !L_ B x))/\∀s∈L,s.2<=max m 0:=by
 refine ai ?_;simp only[a_,seval];refine aa (wP w a b ac K ha hb HJ m hm Z ab) ?_;rintro _ h1 ⟨F,y,L,rfl,r⟩;simp only[a_,seval];exact⟨F,y,L,rfl,r⟩
theorem M6.e{L:List (Int×Int)}(ok:M6 L (-1)){m:Int}(Z:m<=8000)(h:∀s∈L,s.2<=m):L.length<=4096:=by have:=ok.a (max m 0) (fun s hs=>by have:=h s hs;omega) oM;omega
theorem qN{h:b_}{v:V}{L:List (Int×Int)}{f t m:Int}(w:WF h)(af:T9 h v L)(ok:M6 L (-1))(hm:m<=8000)(hL:∀s∈L,s.2<=m)(hf:0<=f)(an:f<=t)(ht:t<=m):
 av go 182 [v,ZZ f,ZZ t,.h kn] h fun y h'=>Fr [] h h'/\∃L',y.O=true/\T9 h' y L'/\M6 L' (-1)/\(∀x,L_ L' x=if f<=x/\x<t then kn else L_ L x)/\∀s∈L',s.2<=m:=by
 have a:=af.be;by_cases e:f=t;refine ai ?_;simp only[a_,seval,eq_true e];exact⟨Vk w,L,Wj a,af,ok,fun x=>by rw[if_neg oM],hL⟩;have ac:=ok.e hm hL;obtain⟨h1,K⟩:∃h1,h1=k_ h (sp (f,t)):=⟨_,rfl⟩;have Z:Fr [] h h1:=K▸VL w _;have aj:f_ h1 h.i (sp (f,t)):=K▸Wi w _;have ab:k_ h [ZZ f,ZZ t]=h1:=K.symm;have ak:M6 [(f,t)] (-1):=⟨by simp;omega,hf,by simp;omega,by simp;omega,trivial⟩;have s1:Sp h1 (.z h.i 0 1 1) [(f,t)]:=Wy (n:=1) aj rfl;have mx:max m 0=m:=oM;cases kn;refine ai ?_;simp only[a_,seval,eq_false e,ab];refine aa (CI Z.r (a.fr Z) s1 ok ak ac iS m hm hL (by simp;exact ht)) ?_;rintro _ h2 ⟨F2,y,L',rfl,o1,sL,ae,iL,mL⟩;simp only[a_,seval];rw[mx]at mL;refine⟨Z.c F2,L',o1,sL,ae,fun x=>?_,mL⟩;rw[iL,iD,mR];by_cases c:f<=x/\x<t;grind;grind;refine ai ?_;simp only[a_,seval,eq_false e,ab];refine aa (I6 Z.r (a.fr Z) s1 ok ak ac iS m hm hL (by simp;exact ht)) ?_;rintro _ h2 ⟨F2,y,L',rfl,o1,sL,ae,iL,mL⟩;simp only[a_,seval];rw[mx]at mL;refine⟨Z.c F2,L',o1,sL,ae,fun x=>?_,mL⟩;rw[iL,iD,mR];by_cases c:f<=x/\x<t;grind;grind
theorem sJ{h:b_}{c vk:V}{e:Int}(w:WF h)(hc:c.O=true)(hk:vk.O=true):
 av go 149 [.B [c],vk,ZZ e] h fun z h'=>Fr [] h h'/\z=if e=0 then .G [.B [c,vk],ZZ 0]else .G [.B [.K,.j],ZZ e]:=by
 let⟨h1,an,af,ar⟩:=au w [c];let⟨h2,aj,ae,ak⟩:=au af.r [.K,.j];have ac:=af.c ae;by_cases e0:e=0;subst e0;refine ai ?_;simp[a_,<-an,<-aj,(ae.c_ ar).J,az hk];refine u_ ae.r ak ?_;rintro h3 K Z ab;simp[a_,K.J];exact ac.y Z w af.i;refine ai ?_;simp[a_,<-an,<-aj,eq_false e0];refine u_ ae.r ak ?_;rintro h3 K Z ab;simp[a_,K.J];exact ac.y Z w af.i
theorem wE{h:b_}{v:V}{L:List (Int×Int)}{a n:Int}(w:WF h)(s:Sp h v L)(ok:M6 L (-1))(K:L.length<=4096)(ha:0<=a)(ab:a<=1073741824)(hn:0<=n)(Z:n<=1073741824):
 av go 208 [v,ZZ a,ZZ n] h fun u h'=>u=ZZ 0/\Fr [] h h':=by
 refine ai ?_;simp[a_];refine aa (rF w s ok K) ?_;rintro _ h1 ⟨rfl,F⟩;simp[a_,(oM:¬a<0),(oM:¬1073741824<a),(oM:¬n<0),(oM:¬1073741824<n)];exact F
def C?(a n:Int)(f:Int->Bool)(x:Int):Bool:=if x<a then f x else if x<a+n then false else f (x-n)
theorem D5{h:b_}{v:V}{L:List (Int×Int)}{a n m:Int}(w:WF h)(s:Sp h v L)(ok:M6 L (-1))(hm:m+n<=8000)(hL:∀s∈L,s.2<=m)(bc:0<=m)(ha:0<=a)(a9:a<=m)(hn:0<=n):
 av go 228 [v,ZZ a,ZZ n] h fun z h'=>Fr [] h h'/\∃y L',z=.G [y,ZZ 0]/\y.O=true/\T9 h' y L'/\M6 L' (-1)/\(∀x,L_ L' x=C? a n (L_ L) x)/\∀s∈L',s.2<=m+n:=by
 have ay:=ok.e oM hL;refine ai ?_;simp only[a_,seval];refine aa (wE w s ok ay ha oM hn oM) ?_;rintro _ h1 ⟨rfl,F1⟩;have s1:=s.fr F1;by_cases e:L=[];subst e;have hz:aP .d [v]=some (ZZ 0):=s.M;simp(disch:=omega) only[a_,seval,ah,hz,(oM:¬(0:Int)<=0-1)];apply aC (fun _ env K=>K=h1/\env.c_ 10=some .j/\env.c_ 46=some (ZZ 0)/\env.c_ 45=some (ZZ 0)) 0 oM ⟨rfl,iS,iS,iS⟩;rintro k env K ⟨rfl,ae,ac,af⟩;simp only[a_,seval,ae,ac,af,(oM:¬(0:Int)<0)];apply aa (sU (B:=0) Q1.D_ iS);rintro _ _ ⟨z,rfl,sz,oz,K⟩;subst K;simp only[a_,seval];exact⟨F1,z,[],rfl,oz,sz,trivial,fun x=>by simp[C?,L_],iS⟩;have pos:0<L.length:=List.length_pos_iff.2 e;let⟨bb,oo,t,e1,e2,e3,e4,e5⟩:=Sp.ix s1 (L.length-1) oM;have el:((L.length-1:Nat):Int)=(L.length:Int)-1:=oM;rw[el]at e1;have tm:=hL t (Vg e5);have c:a<t.2\/¬a<t.2:=oM;obtain c|c:=c;all_goals
  simp(disch:=omega) only[a_,seval,ah,s1.M,(oM:(0:Int)<=(L.length:Int)-1),e1,e3,c,(oM:¬1073741824<t.2+n)];refine aC (fun k env K=>∃(i:Nat)(vo:V)(O:List (Int×Int))(Z:Int),Fr [] h K/\env.c_ 44=some v/\env.c_ 45=some (ZZ L.length)/\env.c_ 46=some (ZZ i)/\env.c_ 10=some vo/\
   env.c_ 1=some (ZZ a)/\env.c_ 2=some (ZZ n)/\i<=L.length/\Q1 sp 2 K h.i vo O/\M6 O (-1)/\M6 (L.drop i) Z/\(∀s∈O,s.2<=if Z<=a then Z else Z+n)/\Z<=m/\
   (∀x,L_ O x=C? a n (L_ (L.take i)) x)/\k=L.length-i) L.length oM ?_ ?_
  exact⟨0,.j,[],-1,F1,iS,iS,iS,iS,iS,iS,oM,Q1.D_,trivial,ok,iS,oM,fun x=>by simp[C?,L_],rfl⟩;rintro k env K ⟨i,vo,O,Z,F,a6,af,ac,ae,g1,g2,hi,gO,an,a0,mO,lm,sO,rfl⟩;have cO:=an.a (m+n) (fun s hs=>by have:=mO s hs;split at this<;>omega) oM;by_cases ar:(i:Int)<L.length;let⟨bb,oo,s,e1,e2,e3,e4,e5⟩:=Sp.ix (VJ (L:=L) ‹Sp h v L› F) i ar
  have sm:=hL s (Vg e5);rw[aN e5]at a0;let⟨k1,k2,k3,k4,k5⟩:=a0;let⟨h2,bh,bf,bg⟩:=au F.r [ZZ 0,ZZ 0];simp only[a_,seval,a6,af,ac,ar,e1,e4,<-bh];apply u_ bf.r bg;rintro h3 aj a1 a8;have ak:Fr [] K h3:=bf.y a1 F.r (Ve _);have F3:=F.c ak;have b3:h.i<=h3.i:=F3.i;have bk:h.i<=K.i:=F.i;simp only[a_,seval,ae,g1,aj.o];apply aa (pj F3.r (gO.fr ak) b3 oM);rintro v1 h4 ⟨aH,U4⟩;let⟨p1,p2,p3⟩:=gw (a:=s.1) (b:=min s.2 a) an (fun K s' ab=>by have:=mO s' ab;split at this<;>omega) k2 oM;have ax:∀s'∈nu O s.1 (min s.2 a),s'.2<=if s.2<=a then s.2 else s.2+n:=p3 _ (fun s' ab=>by have:=mO s' ab;split at this<;>split<;>omega) (fun _=>by split<;>omega);have a2:∀s'∈nu O s.1 (min s.2 a),s'.2<=max s.1 a+n:=p3 _ (fun s' ab=>by have:=mO s' ab;split at this<;>omega) (fun _=>by omega);have ba:=p1.a (m+n) (fun s hs=>by have:=ax s hs;split at this<;>omega) oM;have a5:f_ h4 K.i [ZZ s.1,ZZ s.2]:=by refine U4.D _ _ ?_ aj;obtain⟨rfl,_⟩|⟨b,n',rfl,_,_,_,og⟩:=gO;simp[vb];have:=og.lt F.r;simp[vb];omega
  have a3:=Gs.up (gO.fr ak) U4;simp(disch:=omega) only[a_,seval,ah,g1,g2,a5.o];apply aa (pj U4.r aH (VC b3 U4.i) oM);rintro v2 h5 ⟨a7,U5⟩;have a4:=Gs.up aH U5;let⟨q1,q2,q3⟩:=gw (a:=max s.1 a+n) (b:=s.2+n) p1 (fun _=>a2) oM oM;simp(disch:=omega) only[a_,seval,ah,ac];refine t_ ⟨L.length-(i+1),oM,i+1,v2,_,s.2,F3.br w (a3.b a4),iX,iX,iS,iS,iX,iX,oM,a7,q1,k5,q3 _ ax (fun _=>by split<;>omega),sm,?_,rfl⟩;intro x;rw[q2,p2,sO,Vs,e5];simp only[Yq,C?,pR,iD,mR,XL];by_cases c1:x<a;grind;grind;simp only[a_,seval,af,ac,ae,ar];apply aa (sU gO oM);rintro _ _ ⟨z,rfl,sz,oz,K⟩;subst K;simp only[a_,seval];refine⟨F,z,O,rfl,oz,sz,an,fun x=>by rw[sO,Vm oM],fun s hs=>by have:=mO s hs;split at this<;>omega⟩
structure Kn(L:List (Int×Int))(ks:List Bool):Prop where
 ok:M6 L (-1)
 le:∀s∈L,s.2<=ks.length
 eq:∀i:Nat,L_ L i=ks.getD i false
def Ix(h:b_)(v:V)(l:List Int)(ks:List Bool):Prop:=∃p vk L,v=.B [pv p,vk]/\Rp h (.B [pv p]) l/\T9 h vk L/\Kn L ks/\ks.length=l.length/\l.length<=1024
theorem Ix.fr{h:b_}{v:V}{l:List Int}(a:Ix h v l ks)(f:Fr [] h h'):Ix h' v l ks:=by let⟨p,Z,L,e,r,s,x⟩:=a;exact⟨p,Z,L,e,r.fr f,s.fr f,x⟩
theorem Ix.A_{h:b_}{v:V}{l:List Int}(a:Ix h v l ks):ks.length=l.length/\l.length<=1024:=by let⟨p,Z,L,e,r,s,_,x⟩:=a;exact x
theorem Ix.cb{h:b_}{v:V}{l:List Int}(a:Ix h v l ks):P2 l:=by let⟨p,Z,L,e,r,s,_,x⟩:=a;let⟨_,_,_,_,_,f⟩:=r;exact f
theorem m8{h:b_}{v:V}{l:List Int}(w:WF h)(a:Ix h v l ks):av go 121 [v] h fun u h'=>u=ZZ l.length/\Fr [] h h':=by obtain⟨p,K,L,rfl,r,s,_⟩:=a;let⟨h1,ae,ab,ac⟩:=au w [pv p,K];refine ai ?_;simp[a_,<-ae,ac.J];refine aa (mb ab.r (r.fr ab)) ?_;rintro _ h2 ⟨rfl,Z⟩;simp[a_];exact ab.c Z
theorem IY{h:b_}{v:V}{l:List Int}{i:Int}(w:WF h)(a:Ix h v l ks):
 av go 145 [v,ZZ i] h fun u h'=>(u=if 0<=i/\i<l.length then .G [ZZ (l.getD i.toNat 0),ZZ 0]else .G [ZZ 0,ZZ 4])/\Fr [] h h':=by
 obtain⟨p,K,L,rfl,r,s,_⟩:=a;let⟨h1,ae,ab,ac⟩:=au w [pv p,K];refine ai ?_;simp[a_,<-ae,ac.J];refine aa (I8 ab.r (r.fr ab)) ?_;rintro _ h2 ⟨rfl,Z⟩;by_cases c:0<=i/\i<l.length;simp only[if_pos c];simp[a_];exact ab.c Z;simp[if_neg c];simp[a_];exact ab.c Z
theorem Nl{h:b_}{v:V}{l:List Int}{x:Int}(w:WF h)(a:Ix h v l ks)(K:-9223372036854775808<=x)(Z:x<=9223372036854775807):
 av go 153 [v,ZZ x] h fun u h'=>(u=if 0<=x/\x<l.sum then .G [ZZ (aX l x).1,ZZ (aX l x).2,ZZ 0]else .G [ZZ 0,ZZ 0,ZZ 4])/\Fr [] h h':=by
 obtain⟨p,vk,L,rfl,r,s,_⟩:=a;let⟨h1,ae,ab,ac⟩:=au w [pv p,vk];refine ai ?_;simp[a_,<-ae,ac.J];refine aa (Lq ab.r (r.fr ab) K Z) ?_;rintro _ h2 ⟨rfl,F2⟩;by_cases c:0<=x/\x<l.sum;simp[if_pos c];simp[a_];exact ab.c F2;simp[if_neg c];simp[a_];exact ab.c F2
theorem Kn.A_{L:List (Int×Int)}(k:Kn L ks)(h:ks.length<=1024):L.length<=4096:=k.ok.e (m:=ks.length) oM k.le
theorem ti{h:b_}{s:Int}:av go 180 [ZZ s] h fun u h'=>u=.h (decide (s<1\/2305843009213693952<s))/\h'=h:=by by_cases c:s<1;refine ai ?_;simp only[a_,seval,c];simp;refine ai ?_;simp only[a_,seval,c];simp
def fF(l:List Int)(i size:Int):Int:=if 0<=i/\i<l.length then if size<1\/2305843009213693952<size then 12 else if 4611686018427387904-(l.sum-l.getD i.toNat 0)<size then 13 else 0 else 4
theorem xZ{l:List Int}{i:Int}(h:¬((0<=i/\i<l.length)/\(size<1\/2305843009213693952<size))):fF l i size=ni l i size:=by unfold fF ni;by_cases c:0<=i/\i<l.length;omega;omega
theorem HT{i j:Nat}{b:Bool}(h:i<ks.length):(ks.set i b).getD j false=if j=i then b else ks.getD j false:=by grind
theorem K4{h:b_}{v:V}{l:List Int}{i:Int}(w:WF h)(a:Ix h v l ks)(s0:-9223372036854775808<=size)(s1:size<=9223372036854775807)(i0:-9223372036854775808<=i)(i1:i<=9223372036854775807):
 av go 110 [v,ZZ i,ZZ size,.h kn] h fun u h'=>Fr [] h h'/\∃c d,u=.G [.B [c,d],ZZ (fF l i size)]/\c.O=true/\d.O=true/\(fF l i size=0->Ix h' (.B [c,d]) (l.set i.toNat size) (ks.set i.toNat kn)):=by
 have a0:=a;obtain⟨p,vk,L,rfl,r,s,aj,e1,e2⟩:=a;let⟨h1,a6,a7,ba⟩:=au w [pv p,vk];let⟨h2,a5,a8,a4⟩:=au a7.r [.K,.j];have Z:=a7.c a8;have o1:=a8.c_ ba;have b1:h.i<=h1.i:=a7.i;have c:i<0\/(0<=i/\(l.length:Int)<=i)\/(0<=i/\i<l.length/\¬(size<1\/2305843009213693952<size))\/(0<=i/\i<l.length/\(size<1\/2305843009213693952<size)):=oM;obtain c|c|c|c:=c
 case' inr.inr.inr=>
  refine ai ?_;simp[a_,<-a6,<-a5,o1.J,eq_true c.1];refine aa (m8 Z.r (a0.fr Z)) ?_;rintro _ h3 ⟨rfl,F3⟩;simp[a_,eq_true c.2.1];refine aa ti ?_;rintro _ _ ⟨rfl,hh⟩;subst hh;simp[a_,eq_true c.2.2];refine u_ F3.r (F3.c_ a4) ?_;rintro h4 an ak a3;simp only[a_,seval,an.J];have e:fF l i size=12:=by unfold fF;rw[if_pos ⟨c.1,c.2.1⟩,if_pos c.2.2]
  rw[e];exact⟨(Z.c F3).y ak w b1,_,_,rfl,rfl,rfl,iS⟩
 case' inl=>
  refine ai ?_;simp[a_,<-a6,<-a5,o1.J,(oM:¬0<=i)];obtain⟨h3,F3,e3⟩:∃h3,Fr [] h2 h3/\h3=h2:=⟨h2,Vk Z.r,rfl⟩;rw[<-e3];have ee:=xZ (l:=l) (i:=i) (size:=size) oM
 case' inr.inl=>
  refine ai ?_;simp[a_,<-a6,<-a5,o1.J,eq_true c.1];refine aa (m8 Z.r (a0.fr Z)) ?_;rintro _ h3 ⟨rfl,F3⟩;simp[a_,(oM:¬i<l.length),(F3.c_ o1).J];have ee:=xZ (l:=l) (i:=i) (size:=size) oM
 case' inr.inr.inl=>
  refine ai ?_;simp[a_,<-a6,<-a5,o1.J,eq_true c.1];refine aa (m8 Z.r (a0.fr Z)) ?_;rintro _ h3 ⟨rfl,F3⟩;simp[a_,eq_true c.2.1];apply aa ti;rintro _ _ ⟨rfl,hh⟩;subst hh;simp[a_,eq_false c.2.2,(F3.c_ o1).J];have ee:=xZ (l:=l) (i:=i) (size:=size) oM
 all_goals
  clear c;try simp only[a_,seval,DF,g_,(F3.c_ o1).J]
  have aH:=Z.c F3;apply aa (Ld F3.r (r.fr aH) s0 s1);rintro _ h4 ⟨F4,c4,rfl,ar,hr⟩;rw[ee];let⟨h5,bc,a9,bf⟩:=au F4.r [.K];simp[a_,<-bc];apply ao (c':=[c4]) a9.r bf rfl (by simp[aw,V.s,ar]) rfl;rintro h6 o6 F6 n6;have ae:Fr [] h4 h6:=a9.y F6 F4.r (Ve _);have ay:=(F4.c ae);have ab:=F3.c ay;by_cases z:ni l i size=0;have hi:0<=i/\i<l.length:=by unfold ni at z;by_cases hh:0<=i/\i<l.length;exact hh;rw[if_neg hh]at z;omega
  simp(disch:=omega) only[a_,seval,g_,ah,eq_true z,o6.J,(ab.c_ o1).o];apply aa (qN (m:=ks.length) ae.r (s.fr (Z.c ab)) aj.ok oM aj.le oM oM oM);rintro a1 h7 ⟨F7,L',ov,sL,a2,iL,mL⟩;simp only[a_,g_];apply aa (sJ F7.r ar ov);rintro _ h8 ⟨F8,rfl⟩;rw[if_pos rfl];have af:=(ab.c F7).c F8;simp only[a_,seval,g_];apply u_ F8.r (af.c_ a4);rintro h9 ac K ax;simp only[a_,seval,DF,g_,ac.J,o6.J,(ab.c_ o1).o,(F7.c_ o6).J];have rr:=(hr z);let⟨t',p',ep,at',et,ft⟩:=rr;cases ep;refine⟨(Z.c af).y K w b1,_,_,by rw[z],fO _,ov,fun _=>⟨p',a1,L',rfl,?_,?_,?_,?_,?_⟩⟩;exact(Rp.fr (l:=l.set i.toNat size) ⟨t',p',rfl,at',et,ft⟩ ((ae.c F7).c F8)).aI K (af.c_ a4) iS;exact(sL.fr F8).aI K (af.c_ a4) (Ap iS);refine⟨a2,by simpa using mL,fun j=>?_⟩;rw[iL,HT oM,aj.eq];by_cases cj:j=i.toNat;rw[if_pos cj,if_pos oM];rw[if_neg cj,if_neg oM];simpa using e1;simpa using e2;simp only[a_,seval,eq_false z];apply u_ ae.r (ab.c_ a4);rintro h9 ac K ax;simp only[a_,seval,ac.J];exact⟨(Z.c ab).y K w b1,_,_,rfl,rfl,rfl,by simp[]⟩
def yf(t:Int):List Int->Int
 |[]=>0
 |s::l=>if s<1\/2305843009213693952<s then 12 else if 4611686018427387904<t+s then 13 else yf (t+s) l
theorem Bi:∀(a:List Int)(s t:Int),X_ (a++[s]) t=if X_ a t=0 then(if s<0∨2305843009213693952<s then 12 else if 4611686018427387904-(t+a.sum)<s then 13 else 0)else X_ a t
 |[],s,t=>by simp[X_]
 |x::a,s,t=>by simp only[List.cons_append,X_];by_cases c1:x<0∨2305843009213693952<x;omega;simp only[if_neg c1];by_cases c2:4611686018427387904-t<x;omega;simp only[if_neg c2];rw[Bi a s (t+x)];simp[(oM:t+x+a.sum=t+(x+a.sum))];rfl
def cC(l:List Int)(a:Int)(m:List Int):Int:=if 0<=a/\a<=l.length then if 1024-(l.length:Int)<m.length then 3 else if yf 0 m=0 then(if 4611686018427387904-m.sum<l.sum then 13 else 0)else yf 0 m else 4
theorem HM{a n:Nat}(Z:a<=ks.length)(j:Nat):
 (ks.take a++List.replicate n kn++ks.drop a).getD j false=if j<a then ks.getD j false else if j<a+n then kn else ks.getD (j-n) false:=by
 simp only[Wg];by_cases c1:j<a;grind;grind
theorem K7{h:b_}{v u:V}{l m:List Int}{i:Int}(w:WF h)(a:Ix h v l ks)(am:qz h u m)(hm:m.length<=1000000)(i0:-9223372036854775808<=i)(i1:i<=9223372036854775807):
 av go 223 [v,ZZ i,u,.h kn] h fun z h'=>Fr [] h h'/\∃c d,z=.G [.B [c,d],ZZ (cC l i m)]/\c.O=true/\d.O=true/\
  (cC l i m=0->Ix h' (.B [c,d]) (l.take i.toNat++m++l.drop i.toNat) (ks.take i.toNat++List.replicate m.length kn++ks.drop i.toNat)):=by
 have a0:=a;obtain⟨p,vk,L,rfl,r,s,aH,e1,e2⟩:=a;let⟨h1,bV,bE,b9⟩:=au w [pv p,vk];let⟨h2,bT,bD,bC⟩:=au bE.r [.K,.j];have Z:=bE.c bD;have o1:=bD.c_ b9;have b1:h.i<=h1.i:=bE.i;by_cases c0:i<0
 ·refine ai ?_;simp only[a_,seval,<-bV,<-bT,c0];refine u_ bD.r bC ?_;rintro h4 an ar a7;simp only[a_,seval,an.J];have e:cC l i m=4:=by unfold cC;rw[if_neg oM]
  rw[e];exact⟨Z.y ar w b1,_,_,rfl,rfl,rfl,iS⟩
 ·refine ai ?_;simp only[a_,seval,<-bV,<-bT,o1.J,c0];refine aa (m8 Z.r (a0.fr Z)) ?_;rintro _ h3 ⟨rfl,F3⟩;by_cases c1:(l.length:Int)<i
  ·simp only[a_,seval,c1];apply u_ F3.r (F3.c_ bC);rintro h4 an ar a7;simp only[a_,seval,an.J];have e:cC l i m=4:=by unfold cC;rw[if_neg oM]
   rw[e];exact⟨(Z.c F3).y ar w b1,_,_,rfl,rfl,rfl,iS⟩
  ·have bj:=am.fr (Z.c F3);simp only[a_,seval,c1,bj.A_,(F3.c_ o1).J];apply aa (m8 F3.r (a0.fr (Z.c F3)));rintro _ h4 ⟨rfl,F4⟩;have aj:=F3.c F4;have af:=Z.c aj;have ak:=am.fr af;have hi:0<=i/\i<=l.length:=oM
   by_cases c2:1024-(l.length:Int)<m.length
   ·simp(disch:=omega) only[a_,seval,ah,c2];apply u_ F4.r (aj.c_ bC);rintro h5 K ab a2;simp only[a_,seval,K.J];have e:cC l i m=3:=by unfold cC;rw[if_pos hi,if_pos c2]
    rw[e];exact⟨af.y ab w b1,_,_,rfl,rfl,rfl,iS⟩
   ·simp(disch:=omega) only[a_,seval,ah,c2,ak.A_];have o2:=aj.c_ bC;refine aC (fun k env hh=>hh=h4/\∃(j:Nat),env.c_ 36=some (ZZ j)/\env.c_ 34=some u/\env.c_ 35=some (ZZ m.length)/\env.c_ 2=some u/\env.c_ 1=some (ZZ i)/\env.c_ 3=some (.h kn)/\
     env.c_ 4=some (.u h.i 0)/\env.c_ 8=some (.u h1.i 0)/\j<=m.length/\X_ (m.take j) 0=0/\0<=(m.take j).sum/\(m.take j).sum<=4611686018427387904/\yf (m.take j).sum (m.drop j)=yf 0 m/\k=m.length-j) m.length oM ?_ ?_
    ·exact⟨rfl,0,iS,iS,iS,iS,iS,iS,iS,iS,oM,by simp[X_],iS,iS,iS,rfl⟩
    ·rintro k env hh ⟨rfl,j,a5,br,bc,g2,g1,g3,g4,g8,hj,ck,sn,sm,se,rfl⟩;by_cases a4:(j:Int)<m.length
     ·let⟨bb,oo,x,q1,q2,q3⟩:=ak.ix .i64 j oM a4;simp at q3;rw[aN q3,yf]at se;simp only[a_,seval,a5,br,bc,a4,q1,q2];apply aa ti;rintro _ _ ⟨rfl,hh⟩;subst hh;by_cases c3:x<1\/2305843009213693952<x
      ·simp only[a_,seval,eq_true c3,g8];apply u_ F4.r o2;rintro h5 K ab a2;simp only[a_,seval,K.J,g8];rw[if_pos c3]at se;have e:cC l i m=12:=by unfold cC;rw[if_pos hi,if_neg c2,if_neg oM,<-se]
       rw[e];exact⟨af.y ab w b1,_,_,rfl,rfl,rfl,iS⟩
      ·rw[if_neg c3]at se;have hv:u≠.F:=Sl.ne ak oM;let⟨u',p1,p2⟩:=ak.ba hv .i64 ((j:Int)+1) oM oM;have tk:m.take (j+1)=m.take j++[x]:=by rw[Vs,q3];rfl
       rw[(oM:((j:Int)+1).toNat=j+1)]at p2;have cs:X_ (m.take (j+1)) 0=if 4611686018427387904<(m.take j).sum+x then 13 else 0:=by
        rw[tk,Bi,if_pos ck,if_neg oM];by_cases c4:4611686018427387904<(m.take j).sum+x
        ·omega
        ·omega
       simp(disch:=omega) only[a_,seval,ah,eq_false c3,g2,p1];apply aa (vF F4.r p2 oO);rintro _ _ ⟨rfl,hh⟩;subst hh;rw[if_neg oO,cs];by_cases c4:4611686018427387904<(m.take j).sum+x
       ·rw[if_pos c4]at se|-;simp only[a_,seval,g8];apply u_ F4.r o2;rintro h5 K ab a2;simp only[a_,seval,K.J,g8];have e:cC l i m=13:=by unfold cC;rw[if_pos hi,if_neg c2,if_neg oM,<-se]
        rw[e];exact⟨af.y ab w b1,_,_,rfl,rfl,rfl,iS⟩
       ·rw[if_neg c4]at se|-;simp(disch:=omega) only[a_,seval,ah,a5];have ts:(m.take (j+1)).sum=(m.take j).sum+x:=by rw[tk];simp
        refine t_ ⟨m.length-(j+1),oM,rfl,j+1,iS,iX,iX,iX,iX,iX,iX,iX,oM,by rw[cs,if_neg c4],by rw[ts];omega,by rw[ts];omega,by rw[ts];exact se,rfl⟩
        done
     ·have ej:j=m.length:=oM
      subst ej;simp[yf]at ck se sn sm;simp only[a_,seval,a5,bc,g2,g1,g4,a4,(aj.c_ o1).J];apply aa (Lh F4.r (r.fr af) ak hm);rintro _ h5 ⟨F5,c5,rfl,a6,hr⟩;have ei:vQ l i m=cC l i m:=by
       unfold vQ cC ofE kC;rw[if_pos hi,if_pos hi,if_neg (oM:¬4096<m.length),if_pos ck,if_neg (oM:¬4096<l.length+m.length),if_neg c2,if_pos se.symm]
      rw[ei]at hr|-;let⟨h6,b7,bW,b6⟩:=au F5.r [.K];simp only[a_,seval,<-b7];apply ao (c':=[c5]) bW.r b6 rfl (by simp[aw,V.s,a6]) rfl;rintro h7 o7 F7 n7;have ay:Fr [] h5 h7:=bW.y F7 F5.r (Ve _);have ax:=(aj.c F5).c ay;by_cases z:cC l i m=0
      ·simp only[a_,seval,eq_true z,g2,g1,g4,(ax.c_ o1).o,am.A_];apply aa (D5 (m:=ks.length) ay.r (s.fr (Z.c ax)).be aH.ok oM aH.le oM oM oM oM);rintro _ h8 ⟨F8,bz,L1,rfl,bv,bp,bo,bi,bh⟩;simp(disch:=omega) only[a_,seval,g_,ah,g2,g1,g3,(F8.c_ o7).J,am.A_];apply aa (qN (m:=ks.length+m.length) F8.r bp bo oM bh oM oM oM);rintro bk h9 ⟨F9,L2,a9,bf,bg,bm,bA⟩;simp only[a_,seval,g_];apply aa (sJ F9.r a6 a9);rintro _ bw ⟨a1,rfl⟩;rw[if_pos rfl];have ae:=((ax.c F8).c F9).c a1;simp only[a_,seval,g_,g8];apply u_ a1.r (ae.c_ bC);rintro bB a3 ac bn;simp only[a_,seval,DF,g_,a3.J,g8,(F8.c_ o7).J,((F8.c F9).c_ o7).J];let⟨t',p',ep,at',et,ft⟩:=hr z;cases ep;refine⟨(Z.c ae).y ac w b1,_,_,by rw[z],fO _,a9,fun _=>⟨p',bk,L2,rfl,?_,?_,?_,?_,?_⟩⟩
       ·exact(Rp.fr (l:=l.take i.toNat++m++l.drop i.toNat) ⟨t',p',rfl,at',et,ft⟩ (((ay.c F8).c F9).c a1)).aI ac (ae.c_ bC) iS
       ·exact(bf.fr a1).aI ac (ae.c_ bC) (Ap iS)
       ·refine⟨bg,?_,fun j=>?_⟩
        ·grind
        ·rw[bm,bi,HM oM];unfold C?;by_cases d1:j<i.toNat
         ·rw[if_neg oM,if_pos oM,if_pos d1,aH.eq]
         ·by_cases d2:j<i.toNat+m.length
          ·grind
          ·rw[if_neg oM,if_neg oM,if_neg oM,if_neg d1,if_neg d2,<-aH.eq];congr 1;omega
       ·simp;omega
       ·simp;omega
      ·simp only[a_,seval,eq_false z,g8];apply u_ ay.r (ax.c_ bC);rintro h9 ba a8 bt;simp only[a_,seval,ba.J,g8];exact⟨(Z.c ax).y a8 w b1,_,_,rfl,rfl,rfl,by simp[]⟩
theorem DL(k:IntKind)(x:Nat)(b:Int)(n:Nat)(h:b=n)(Z:n<=64):aP (.F false) [ZX (x:Int),.C k b]=some (ZX ((x/2^n:Nat):Int)):=by subst h;rw[CF _ _ _ _ oM];simp only[pi,IntKind.bits,WE Z];congr 2;rw[Int.fdiv_eq_ediv_of_nonneg _ (YQ _),Int.natCast_ediv]
theorem Ow(w x y:Nat):(BitVec.ofInt w (x:Int)&&&BitVec.ofInt w (y:Int)).toNat=(x%2^w)&&&(y%2^w):=by simp
theorem Ov(w x y:Nat):(BitVec.ofInt w (x:Int)^^^BitVec.ofInt w (y:Int)).toNat=(x%2^w)^^^(y%2^w):=by simp
theorem IW(k:IntKind)(a b:Int):aP (.h .and) [.C k a,.C k b]=some (.C k (bF k (BitVec.toNat (BitVec.ofInt k.bits a&&&BitVec.ofInt k.bits b)))):=by simp[aP,cD,cond_true,jw]
theorem Nj(k:IntKind)(a b:Int):aP (.h .xor) [.C k a,.C k b]=some (.C k (bF k (BitVec.toNat (BitVec.ofInt k.bits a^^^BitVec.ofInt k.bits b)))):=by simp[aP,cD,jw]
theorem p64:2^IntKind.u64.bits=18446744073709551616:=rfl
theorem K3(x y:Nat)(a b:Int)(K:a=x)(hb:b=y)(Z:x<18446744073709551616)(hy:y<18446744073709551616):aP (.h .and) [ZX a,ZX b]=some (ZX ((x&&&y:Nat):Int)):=by subst K hb;have ab:x&&&y<18446744073709551616:=Nat.lt_of_le_of_lt Nat.and_le_left Z;rw[IW,Ow,p64,XM Z,XM hy,bY _ oM oM]
theorem sZ(x y:Nat)(a b:Int)(ha:a=x)(hb:b=y)(K:x<18446744073709551616)(Z:y<18446744073709551616):aP (.h .xor) [ZX a,ZX b]=some (ZX ((x^^^y:Nat):Int)):=by subst ha hb;have ab:x^^^y<2^64:=Nat.xor_lt_two_pow (eV K) (eV Z);rw[Nj,Ov,p64,XM K,XM Z,bY _ oM oM]
def uw(x:Nat):V:=ZX (x:Int)
def R3(n m:Int)(ws:List Nat):List V:=ZZ n::ZZ m::ws.map uw
structure WOK(ws:List Nat)(bs:List Bool):Prop where
 A_:ws.length=64
 w:∀k,k<64->∃x,ws[k]? =some x/\x<18446744073709551616/\∀j,j<64->x.testBit j=bs.getD (64*k+j) false
def Fl(h:b_)(b:Nat)(bs:List Bool):Prop:=∃ws,f_ h b (R3 bs.length (bs.count true) ws)/\WOK ws bs/\bs.length<=4096
theorem Fl.fr{h:b_}{b:Nat}{bs:List Bool}(a:Fl h b bs)(f:Fr [] h h'):Fl h' b bs:=by let⟨Z,o,x⟩:=a;exact⟨Z,f.c_ o,x⟩
theorem Dq(n m:Int)(Z:List Nat)(k:Nat):X0 (R3 n m Z) (2+k)=(Z[k]?).map uw:=by rw[gN,XH];simp[R3]
theorem LB(i:Nat):aP (.h .quo) [ZZ (i:Int),ZZ 64]=some (ZZ ((i/64:Nat):Int))\/i>9000000:=by by_cases h:i>9000000;exact .inr h;left;rw[pp _ _ 64 dI,show Int.tdiv (i:Int) 64=((i/64:Nat):Int)from(Int.ofNat_tdiv i 64).symm,ah _ oM oM]
theorem LA(i:Nat):aP (.h .rem) [ZZ (i:Int),ZZ 64]=some (ZZ ((i%64:Nat):Int)):=by rw[jy _ _ 64 dI,show Int.tmod (i:Int) 64=((i%64:Nat):Int)from(Int.ofNat_tmod i 64).symm]
theorem O9(x j:Nat):decide (((x/2^j&&&1:Nat):Int)=1)=x.testBit j:=by grind
theorem HS{h:b_}{b:Nat}{bs:List Bool}{i:Nat}(f:Fl h b bs)(hi:i<bs.length):av go 211 [.u b 0,ZZ (i:Int)] h fun u h'=>u=.h (bs.getD i false)/\h'=h:=by
 let⟨ws,o,ok,hn⟩:=f;let⟨x,e1,e2,e3⟩:=ok.w (i/64) oM;have K:=(LB i).resolve_right oM;have q2:=LA i;have Z:=vu 1 b 2 64 .i64 ((i/64:Nat):Int) oM oM;have q4:ag h b (2+(i/64) *1)=some (ZX (x:Int)):=by rw[o.o,WC,Dq,e1];rfl
 have q5:=DL .i64 x ((i%64:Nat):Int) (i%64) rfl oM;have q6:=K3 (x/2^(i%64)) 1 _ 1 rfl rfl (Nat.lt_of_le_of_lt (YL _ _) e2) oM;simp only[pi]at Z;refine ai ?_;simp only[DZ,DX,D0,jV,zF,Lc,La,JM,tf,tc,Hl,zG,gu,yH,yG,rU,jn,Du,dP,gR,dg,bX,db,mX,iU,WB,qv,qt,pW,yS,mF,DO,vt,jP,CH,seval,VR,K,q2,Z,q4,q5,q6,O9];rw[e3 (i%64) oM,(oM:64*(i/64)+i%64=i)];exact⟨rfl,trivial⟩
theorem Fi:∀(bs:List Bool)(i:Nat)(v:Bool),i<bs.length->bs.getD i false≠v->((bs.set i v).count true:Int)=bs.count true+if v=true then 1 else-1
 |b::bs,0,v,_,h=>by cases b<;>cases v<;>simp at h|- <;>omega
 |b::bs,i+1,v,hi,h=>by grind
theorem z9:∀(bs:List Bool)(i:Nat),bs.set i (bs.getD i false)=bs
 |[],_=>rfl
 |b::bs,0=>by simp
 |b::bs,i+1=>by have:=z9 bs i;simp at this⊢;exact this
theorem WOK.bZ{Z:List Nat}{bs:List Bool}(ok:WOK Z bs){i x:Nat}{v:Bool}(hi:i<bs.length)(h4:bs.length<=4096)(hx:Z[i/64]? =some x)(hv:bs.getD i false≠v):WOK (Z.set (i/64) (x^^^2^(i%64))) (bs.set i v):=by refine⟨by rw[VV];exact ok.A_,fun k hk=>?_⟩;let⟨y,K,e2,e3⟩:=ok.w k hk;by_cases c:k=i/64;subst c;rw[hx]at K;cases K;refine⟨x^^^2^(i%64),by simp[ok.A_,hk],?_,fun j hj=>?_⟩;have:=Nat.xor_lt_two_pow (n:=64) (x:=x) (y:=2^(i%64)) (eV e2) (YG oM oM);simpa using this;grind;grind
end Go.Ev.Lay
