/- An evaluator of the program, and contracts over it: LayA to LayN. -/
import Derived.Test.YtknldhlnhobdhaaGreatDoorP05
set_option linter.unusedSimpArgs false
set_option linter.unusedVariables false
set_option linter.constructorNameAsVariable false
set_option linter.unnecessarySimpa false
set_option maxRecDepth 4000
namespace Go.Ev.Lay
variable{h':a_}{pl pr:Option Nat}{bl bs br:Nat}{α:Type}{size:Int}{kn:Bool}{ks:List Bool}
inductive Tr where
 |w_
 |node (l:Tr) (s:Int) (r:Tr)
namespace Tr
def k_:Tr->List Int
 |w_=>[]
 |node l s r=>l.k_++s::r.k_
def T4:Tr->Int
 |w_=>0
 |node l _ r=>l.T4+r.T4+1
def U?:Tr->Int
 |w_=>0
 |node l s r=>l.U?+s+r.U?
def U0:Tr->Int
 |w_=>0
 |node l _ r=>max l.U0 r.U0+1
theorem Q1:∀t:Tr,t.T4=t.k_.length
 |w_=>rfl
 |node l s r=>by simp[T4,k_,Q1 l,Q1 r];omega
theorem g?:∀t:Tr,t.U?=t.k_.sum
 |w_=>rfl
 |node l s r=>by simp[U?,k_,g? l,g? r];omega
theorem U3:∀t:Tr,0≤t.U0
 |w_=>by simp[U0]
 |node l s r=>by have:=U3 l;have:=U3 r;simp only[U0];omega
theorem W3:∀t:Tr,t.U0≤t.T4
 |w_=>by simp[U0,T4]
 |node l s r=>by have a:=W3 l;have b:=W3 r;have c:=Q1 l;have d:=Q1 r;simp only[U0,T4];omega
theorem X4(t:Tr):0<=t.T4:=by rw[Q1];omega
end Tr
def At(h:a_):Tr->Option Nat->Prop
 |.w_,p=>p=none
 |.node l s r,p=>∃b pl pr,p=some b/\e_ h b [pv pl,pv pr,ZZ s,ZZ (Tr.node l s r).T4, ZZ (Tr.node l s r).U?, ZZ (Tr.node l s r).U0]/\At h l pl/\At h r pr
theorem At.fr{h:a_}(f:Fr [] h h'):∀{t:Tr}{p:Option Nat},At h t p->At h' t p
 |.w_,_,a=>a
 |.node l s r,_,⟨b,pl,pr,e,o,al,ar⟩=>⟨b,pl,pr,e,f.i o,At.fr f al,At.fr f ar⟩
def I_(l:List Int):Prop:=(∀x∈l,0<=x)/\l.sum<=4611686018427387904/\(l.length:Int)<=1000000
theorem i?:∀{l:List Int},(∀x∈l,0≤x)→0≤l.sum
 |[],_=>by simp
 |x::l,h=>by have:=i? (l:=l) fun y hy=>h y iX;have:=h x iS;simp;omega
theorem I_.left{a b:List Int}(f:I_ (a++b)):I_ a:=by let⟨p,q,r⟩:=f;have K:0<=b.sum:=i? fun x Z=>p x iX;refine⟨fun x Z=>p x iX,?_,?_⟩;grind;grind
theorem I_.right{a b:List Int}(f:I_ (a++b)):I_ b:=by let⟨p,q,r⟩:=f;have K:0<=a.sum:=i? fun x Z=>p x iX;refine⟨fun x Z=>p x iX,?_,?_⟩;grind;grind
theorem I_.nn{l:List Int}(f:I_ l):0<=l.sum:=i? f.1
theorem cZ{h:a_}{t:Tr}{p:Option Nat}(a:At h t p):ao go 266 [pv p] h fun v h'=>v=ZZ t.U0/\h'=h:=by
 refine ah ?_;cases t with
 |w_=>have a:p=none:=a;subst a;simp[b_,Tr.U0]
 |node l s r=>obtain⟨b,pl,pr,rfl,o,_⟩:=a;simp[b_,aO,o.j]
theorem gF{h:a_}{t:Tr}{p:Option Nat}(a:At h t p):ao go 206 [pv p] h fun v h'=>v=ZZ t.T4/\h'=h:=by
 refine ah ?_;cases t with
 |w_=>have a:p=none:=a;subst a;simp[b_,Tr.T4]
 |node l s r=>obtain⟨b,pl,pr,rfl,o,_⟩:=a;simp[b_,aO,o.j]
theorem kH{h:a_}{t:Tr}{p:Option Nat}(a:At h t p):ao go 137 [pv p] h fun v h'=>v=ZZ t.U?/\h'=h:=by
 refine ah ?_;cases t with
 |w_=>have a:p=none:=a;subst a;simp[b_,Tr.U?]
 |node l s r=>obtain⟨b,pl,pr,rfl,o,_⟩:=a;simp[b_,aO,o.j]
theorem dO{h:a_}{l r:Tr}{s:Int}(w:WF h)(al:At h l pl)(Z:At h r pr)(f:I_ (l.k_++s::r.k_)):
 ao go 268 [pv pl,ZZ s,pv pr] h fun v h'=>∃b,v=pv (some b)/\At h' (.node l s r) (some b)/\Fr [] h h':=by
 have l1:=Tr.Q1 l;have l2:=Tr.g? l;have l3:=Tr.U3 l;have l4:=Tr.W3 l;have r1:=Tr.Q1 r;have K:=Tr.g? r;have r3:=Tr.U3 r;have r4:=Tr.W3 r;have fl:=f.left.nn;have fr:=I_.nn (I_.right (a:=l.k_++[s]) (b:=r.k_) (eV f));have hs:0<=s:=f.1 s iS;let⟨_,f2,f3⟩:=f;simp only[XG,XH,Wq,Wv]at f2 f3;rw[<-l2]at fl f2;rw[<-K]at fr f2;refine ah ?_;simp[b_];refine aa (gF al) ?_;rintro _ _ ⟨rfl,rfl⟩;simp[b_];apply aa (gF Z);rintro _ _ ⟨rfl,rfl⟩;simp(disch:=omega)[b_,ag];apply aa (kH al);rintro _ _ ⟨rfl,rfl⟩;simp(disch:=omega)[b_,ag];apply aa (kH Z);rintro _ _ ⟨rfl,rfl⟩;simp(disch:=omega)[b_,ag];apply aa (cZ al);rintro _ _ ⟨rfl,rfl⟩;simp[b_];apply aa (cZ Z);rintro _ _ ⟨rfl,rfl⟩;simp(disch:=omega)[b_,ag];refine⟨_,rfl,?_,WA w _⟩;exact⟨_,pl,pr,rfl,by simpa only[Tr.T4,Tr.U?,Tr.U0]using Xc w _,al.fr (WA w _),Z.fr (WA w _)⟩
theorem K6{h:a_}{l r:Tr}{s:Int}(w:WF h)(al:At h l pl)(Z:At h r pr)(f:I_ (l.k_++s::r.k_))
 (ol:e_ h bl [pv pl]) (os:e_ h bs [ZZ s]) (or:e_ h br [pv pr]):
 ao go 295 [.u bl 0,.u bs 0,.u br 0] h fun v h'=>∃t p,v=pv p/\At h' t p/\t.k_=l.k_++s::r.k_/\Fr [] h h':=by
 refine ah ?_;simp[b_,ol.j,os.j,or.j];refine aa (dO w al Z f) ?_;rintro _ h' ⟨b,rfl,a,fr⟩;simp[b_];exact⟨_,_,rfl,a,rfl,fr⟩
theorem I_.o_{x:Int}{l:List Int}(f:I_ (x::l)):I_ l:=I_.right (a:=[x]) (eV f)
theorem K5{h:a_}{l r:Tr}{s:Int}(w:WF h)(al:At h l pl)(ar:At h r pr)(f:I_ (l.k_++s::r.k_))(ht:0<r.U0)
 (ol:e_ h bl [pv pl]) (os:e_ h bs [ZZ s]) (or:e_ h br [pv pr]):
 ao go 296 [.u br 0,.u bl 0,.u bs 0] h fun v h'=>∃t p,v=pv p/\At h' t p/\t.k_=l.k_++s::r.k_/\Fr [] h h':=by
 cases r with
 |w_=>simp[Tr.U0]at ht
 |node rl rs rr=>
  obtain⟨b,aJ,aN,rfl,o,ae,af⟩:=ar;have f1:I_ ((l.k_++s::rl.k_)++rs::rr.k_):=by simpa[Tr.k_]using f
  refine ah ?_;simp[b_,j_,or.j,aO,o.j];refine aa (cZ ae) ?_;rintro _ _ ⟨rfl,rfl⟩;simp[b_,j_];simp[b_,j_,or.j,aO,o.j];apply aa (cZ af);rintro _ _ ⟨rfl,rfl⟩;simp only[b_,seval,DF,j_];simp[b_,j_,ol.j,os.j,or.j,aO,o.j];split;rename_i an;cases rl with
  |w_=>have:=Tr.U3 rr;simp[Tr.U0]at an;omega
  |node ml ms mr=>
   obtain⟨b',az,aH,rfl,o',ax,ay⟩:=ae;have f2:I_ ((l.k_++s::ml.k_)++ms::(mr.k_++rs::rr.k_)):=by simpa[Tr.k_]using f
   simp[b_,j_,aO,o'.j];apply aa (dO w al ax f2.left);rintro _ h1 ⟨b1,rfl,a1,Z⟩;simp[b_,j_,(Z.i or).j,aO,(Z.i o).j,(Z.i o').j];apply aa (dO Z.o (ay.fr Z) (af.fr Z) f2.right.o_);rintro _ h2 ⟨b2,rfl,a2,K⟩;simp[b_,j_,aO];apply aa (dO K.o (a1.fr K) a2 f2);rintro _ h3 ⟨b3,rfl,a3,ak⟩;have ac:=Z.c K;simp[b_,DF,j_,ol.j,os.j,or.j,o.j,o'.j,(Z.i or).j,aO,(Z.i o).j,(Z.i o').j,(ac.i o').j];exact⟨_,_,(aO _).symm,a3,by simp[Tr.k_],ac.c ak⟩
  apply aa (dO w al ae f1.left);rintro _ h1 ⟨b1,rfl,a1,Z⟩;simp[b_,j_,(Z.i or).j,aO,(Z.i o).j];apply aa (dO Z.o a1 (af.fr Z) f1);rintro _ h2 ⟨b2,rfl,a2,K⟩;simp[b_,DF,j_,ol.j,os.j,or.j,o.j,(Z.i or).j,aO,(Z.i o).j];exact⟨_,_,(aO _).symm,a2,by simp[Tr.k_],Z.c K⟩
theorem K4{h:a_}{l r:Tr}{s:Int}(w:WF h)(al:At h l pl)(ar:At h r pr)(f:I_ (l.k_++s::r.k_))(ht:0<l.U0)
 (ol:e_ h bl [pv pl]) (os:e_ h bs [ZZ s]) (or:e_ h br [pv pr]):
 ao go 297 [.u bl 0,.u bs 0,.u br 0] h fun v h'=>∃t p,v=pv p/\At h' t p/\t.k_=l.k_++s::r.k_/\Fr [] h h':=by
 cases l with
 |w_=>simp[Tr.U0]at ht
 |node ll ls lr=>
  obtain⟨b,aH,ay,rfl,o,all,ae⟩:=al;have f1:I_ (ll.k_++ls::(lr.k_++s::r.k_)):=by simpa[Tr.k_]using f
  refine ah ?_;simp[b_,j_,ol.j,aO,o.j];refine aa (cZ ae) ?_;rintro _ _ ⟨rfl,rfl⟩;simp[b_,j_];simp[b_,j_,ol.j,aO,o.j];apply aa (cZ all);rintro _ _ ⟨rfl,rfl⟩;simp only[b_,seval,DF,j_];simp[b_,j_,ol.j,os.j,or.j,aO,o.j];split;rename_i ak;cases lr with
  |w_=>have:=Tr.U3 ll;simp[Tr.U0]at ak;omega
  |node ml ms mr=>
   obtain⟨b',az,aJ,rfl,o',an,ax⟩:=ae;have f2:I_ ((ll.k_++ls::ml.k_)++ms::(mr.k_++s::r.k_)):=by simpa[Tr.k_]using f
   simp[b_,j_,aO,o'.j];apply aa (dO w all an f2.left);rintro _ h1 ⟨b1,rfl,a1,Z⟩;simp[b_,j_,(Z.i os).j,(Z.i or).j,aO,(Z.i o').j];apply aa (dO Z.o (ax.fr Z) (ar.fr Z) f2.right.o_);rintro _ h2 ⟨b2,rfl,a2,K⟩;simp[b_,j_,aO];apply aa (dO K.o (a1.fr K) a2 f2);rintro _ h3 ⟨b3,rfl,a3,af⟩;have ac:=Z.c K;simp[b_,DF,j_,ol.j,os.j,or.j,o.j,o'.j,(Z.i os).j,(Z.i or).j,aO,(Z.i o').j,(ac.i o').j];exact⟨_,_,(aO _).symm,a3,by simp[Tr.k_],ac.c af⟩
  apply aa (dO w ae ar f1.right.o_);rintro _ h1 ⟨b1,rfl,a1,Z⟩;simp[b_,j_,aO];apply aa (dO Z.o (all.fr Z) a1 f1);rintro _ h2 ⟨b2,rfl,a2,K⟩;simp[b_,DF,j_,ol.j,os.j,or.j,o.j,(Z.i ol).j,aO,(Z.i o).j];exact⟨_,_,(aO _).symm,a2,by simp[Tr.k_],Z.c K⟩
def Ny(h:a_)(l:List Int)(v:V):Prop:=∃t p,v=pv p/\At h t p/\t.k_=l
theorem rK{h:a_}{l r:Tr}{s:Int}(w:WF h)(al:At h l pl)(ar:At h r pr)(f:I_ (l.k_++s::r.k_)):
 ao go 267 [pv pl,ZZ s,pv pr] h fun v h'=>∃t p,v=pv p/\At h' t p/\t.k_=l.k_++s::r.k_/\Fr [] h h':=by
 have l1:=Tr.Q1 l;have l3:=Tr.U3 l;have l4:=Tr.W3 l;have r1:=Tr.Q1 r;have r3:=Tr.U3 r;have r4:=Tr.W3 r;have f3:=f.2.2;simp only[Wq,Wv]at f3;obtain⟨h1,e1⟩:∃h1,h1=h_ h [pv pl]:=⟨_,rfl⟩;obtain⟨h2,e2⟩:∃h2,h2=h_ h1 [ZZ s]:=⟨_,rfl⟩;obtain⟨h3,e3⟩:∃h3,h3=h_ h2 [pv pr]:=⟨_,rfl⟩;have F1:Fr [] h h1:=e1▸WA w _;have F2:Fr [] h1 h2:=e2▸WA F1.o _;have F3:Fr [] h2 h3:=e3▸WA F2.o _;have ol:e_ h3 h.e [pv pl]:=F3.i (F2.i (e1▸Xc w _));have os:e_ h3 h1.e [ZZ s]:=F3.i (e2▸Xc F1.o _);have or:e_ h3 h2.e [pv pr]:=e3▸Xc F2.o _;have F:=(F1.c F2).c F3;have Z:=al.fr F;have K:=ar.fr F;refine ah ?_;simp[b_,j_,<-e1,<-e2,<-e3,or.j];refine aa (cZ K) ?_;rintro _ _ ⟨rfl,hh⟩;simp[b_,j_];subst hh;simp[b_,j_,ol.j];apply aa (cZ Z);rintro _ _ ⟨rfl,hh⟩;simp(disch:=omega) only[b_,seval,DF,j_,ag];subst hh;simp[b_,ol.j,or.j];split;rename_i hd;apply aa (K5 F.o Z K f oM ol os or);rintro _ h' ⟨t,p,rfl,a,e,fr⟩;simp[b_];exact⟨_,_,rfl,a,e,F.c fr⟩;split;apply aa (K4 F.o Z K f oM ol os or);rintro _ h' ⟨t,p,rfl,a,e,fr⟩;simp[b_];exact⟨_,_,rfl,a,e,F.c fr⟩;apply aa (K6 F.o Z K f ol os or);rintro _ h' ⟨t,p,rfl,a,e,fr⟩;simp[b_];exact⟨_,_,rfl,a,e,F.c fr⟩
theorem BA:∀(n:Nat){h:a_}{l r:Tr}{s:Int}{pl pr:Option Nat},(l.T4+r.T4).toNat<=n->WF h->At h l pl->At h r pr->I_ (l.k_++s::r.k_)->
 ao go 222 [pv pl,ZZ s,pv pr] h fun v h'=>∃t p,v=pv p/\At h' t p/\t.k_=l.k_++s::r.k_/\Fr [] h h':=by
 intro n;induction n with
 |zero=>
  intro h l r s pl pr hn w al K f;cases l with
  |node ll ls lr=>have a:=Tr.X4 ll;have b:=Tr.X4 lr;have c:=Tr.X4 r;simp only[Tr.T4]at hn;omega
  |w_=>cases r with
   |node ll ls lr=>have a:=Tr.X4 ll;have b:=Tr.X4 lr;simp only[Tr.T4]at hn;omega
   |w_=>refine ah ?_;simp[b_];refine aa (cZ al) ?_;rintro _ _ ⟨rfl,rfl⟩;simp[b_];apply aa (cZ K);rintro _ _ ⟨rfl,rfl⟩;simp[b_,j_];simp(disch:=omega) only[ag,Tr.U0];simp;apply aa (cZ K);rintro _ _ ⟨rfl,rfl⟩;simp[b_];apply aa (cZ al);rintro _ _ ⟨rfl,rfl⟩;simp[b_,j_];simp(disch:=omega) only[ag,Tr.U0];simp;apply aa (dO w al K f);rintro _ h' ⟨b,rfl,a,fr⟩;simp[b_];exact⟨_,_,rfl,a,rfl,fr⟩
 |succ n ih=>
  intro h l r s pl pr hn w al K f;have l1:=Tr.Q1 l;have l3:=Tr.U3 l;have l4:=Tr.W3 l;have r1:=Tr.Q1 r;have r3:=Tr.U3 r;have r4:=Tr.W3 r;have f3:=f.2.2;simp only[Wq,Wv]at f3;refine ah ?_;simp[b_];refine aa (cZ al) ?_;rintro _ _ ⟨rfl,rfl⟩;simp[b_];apply aa (cZ K);rintro _ _ ⟨rfl,rfl⟩;simp(disch:=omega)[b_,j_,ag];split;rename_i ac;cases l with
  |w_=>simp[Tr.U0]at ac;omega
  |node ll ls lr=>
   obtain⟨b,ay,ax,rfl,o,all,ak⟩:=al;have f1:I_ (ll.k_++ls::(lr.k_++s::r.k_)):=by simpa[Tr.k_]using f
   simp[b_,j_,aO,o.j];refine aa (ih (l:=lr) (r:=r) (by have a:=Tr.X4 ll;simp only[Tr.T4]at hn;omega) w ak K f1.right.o_) ?_;rintro _ h1 ⟨t1,p1,rfl,a1,e1,Z⟩;simp[b_,j_];refine aa (rK Z.o (all.fr Z) a1 (by rw[e1];exact f1)) ?_;rintro _ h2 ⟨t2,p2,rfl,a2,e2,ae⟩;simp[b_,DF,j_,o.j,(Z.i o).j];exact⟨_,_,rfl,a2,by rw[e2,e1];simp[Tr.k_],Z.c ae⟩
  apply aa (cZ K);rintro _ _ ⟨rfl,rfl⟩;simp[b_];apply aa (cZ al);rintro _ _ ⟨rfl,rfl⟩;simp(disch:=omega)[b_,j_,ag];split;rename_i ac;cases r with
  |w_=>simp[Tr.U0]at ac;omega
  |node rl rs rr=>
   obtain⟨b,az,aH,rfl,o,af,an⟩:=K;have f1:I_ ((l.k_++s::rl.k_)++rs::rr.k_):=by simpa[Tr.k_]using f
   simp[b_,j_,aO,o.j];refine aa (ih (l:=l) (r:=rl) (by have a:=Tr.X4 rr;simp only[Tr.T4]at hn;omega) w al af f1.left) ?_;rintro _ h1 ⟨t1,p1,rfl,a1,e1,Z⟩;simp[b_,j_,(Z.i o).j];refine aa (rK Z.o a1 (an.fr Z) (by rw[e1];exact f1)) ?_;rintro _ h2 ⟨t2,p2,rfl,a2,e2,ae⟩;simp[b_,DF,j_,o.j,(Z.i o).j];exact⟨_,_,rfl,a2,by rw[e2,e1];simp[Tr.k_],Z.c ae⟩
  apply aa (dO w al K f);rintro _ h' ⟨b,rfl,a,fr⟩;simp[b_];exact⟨_,_,rfl,a,rfl,fr⟩
theorem mH{h:a_}{l r:Tr}{s:Int}(w:WF h)(al:At h l pl)(ar:At h r pr)(f:I_ (l.k_++s::r.k_)):
 ao go 222 [pv pl,ZZ s,pv pr] h fun v h'=>∃t p,v=pv p/\At h' t p/\t.k_=l.k_++s::r.k_/\Fr [] h h':=
 BA _ (VZ _) w al ar f
theorem I_.sub{l m:List Int}(f:I_ l)(h:m.Sublist l):I_ m:=by
 let⟨a,b,c⟩:=f;have Z:∀{l m:List Int},m.Sublist l->(∀x∈l,0<=x)->m.sum<=l.sum:=by
  intro l m h;induction h with
  |slnil=>intro _;simp
  |cons x h ih=>intro a;have:=ih (fun y hy=>a y iX);have:=a x iS;simp;omega
  |cons_cons x h ih=>intro a;have:=ih (fun y hy=>a y iX);simp;omega
 exact⟨fun x K=>a x (h.subset K),by have:=Z h a;omega,by have:=h.length_le;omega⟩
theorem vF(a b:List Int)(s:Int)(k:Nat):(a++s::b).take (a.length+1+k)=a++s::b.take k:=by
 induction a with
 |nil=>simp[Yz 1 k]
 |cons x a ih=>simp[(oM:a.length+1+1+k=(a.length+1+k)+1),ih]
theorem EU(a b:List Int)(s:Int)(k:Nat):(a++s::b).drop (a.length+1+k)=b.drop k:=by
 induction a with
 |nil=>simp[Yz 1 k]
 |cons x a ih=>simp[(oM:a.length+1+1+k=(a.length+1+k)+1),ih]
theorem oW:∀{t:Tr}{h:a_}{p:Option Nat}{at':Int},WF h->At h t p->I_ t.k_->0<=at'->at'<=1000000->
 ao go 221 [pv p,ZZ at'] h fun v h'=>∃t1 t2 p1 p2,v=.D [pv p1,pv p2]/\At h' t1 p1/\At h' t2 p2/\t1.k_=t.k_.take at'.toNat/\t2.k_=t.k_.drop at'.toNat/\Fr [] h h':=by
 intro t;induction t with
 |w_=>intro h p at' w a f h0 h1;have a:p=none:=a;subst a;refine ah ?_;simp only[b_,seval];exact⟨.w_,.w_,none,none,rfl,rfl,rfl,by simp[Tr.k_],by simp[Tr.k_],Wl w⟩
 |node l s r ihl ihr=>intro h p at' w a f h0 h1;obtain⟨b,pl,pr,rfl,o,al,ar⟩:=a;have l1:=Tr.Q1 l;have f3:=f.2.2;simp only[Tr.k_,Wq,Wv]at f3;have f1:I_ (l.k_++s::r.k_):=f;refine ah ?_;simp[b_,aO,o.j];refine aa (gF al) ?_;rintro _ _ ⟨rfl,rfl⟩;simp[b_];split;rename_i ac;simp(disch:=omega)[b_,ag,o.j];apply aa (ihr w ar f1.right.o_ oM oM);rintro _ h1 ⟨t1,t2,p1,p2,rfl,a1,a2,e1,e2,Z⟩;simp[b_,j_,(Z.i o).j];refine aa (mH Z.o (al.fr Z) a1 (by rw[e1];exact f1.sub ((Yx _).append ((Xp _ _).cons_cons _)))) ?_;rintro _ h2 ⟨t3,p3,rfl,a3,e3,K⟩;simp only[b_,seval,DF,j_,(Z.i o).j];have e:at'.toNat=l.k_.length+1+(at'-l.T4-1).toNat:=oM;refine⟨t3,t2,p3,p2,rfl,a3,a2.fr K,?_,?_,Z.c K⟩;rw[e3,e1,e,Tr.k_,vF];rw[e2,e,Tr.k_,EU];rename_i ac;simp[b_,o.j];apply aa (ihl w al f1.left h0 h1);rintro _ h1 ⟨t1,t2,p1,p2,rfl,a1,a2,e1,e2,Z⟩;simp[b_,j_,(Z.i o).j];refine aa (mH Z.o a2 (ar.fr Z) (by rw[e2];exact f1.sub ((Yh _ _).append (Yx _)))) ?_;rintro _ h2 ⟨t3,p3,rfl,a3,e3,K⟩;simp only[b_,seval,DF,j_,(Z.i o).j];refine⟨t1,t3,p1,p3,rfl,a1.fr K,a3,?_,?_,Z.c K⟩;rw[e1,Tr.k_,Xi oM];rw[e3,e2,Tr.k_,Xj oM]
theorem Bm{h:a_}{l r:Tr}(w:WF h)(al:At h l pl)(ar:At h r pr)(f:I_ (l.k_++r.k_)):
 ao go 276 [pv pl,pv pr] h fun v h'=>∃t p,v=pv p/\At h' t p/\t.k_=l.k_++r.k_/\Fr [] h h':=by
 cases r with
 |w_=>have a:pr=none:=ar;subst a;refine ah ?_;simp[b_];exact⟨l,pl,rfl,al,by simp[Tr.k_],Wl w⟩
 |node rl rs rr=>
  have af:=ar;obtain⟨b,an,ay,rfl,o,ak,ax⟩:=ar;refine ah ?_;simp[b_,aO];refine aa (oW (at':=1) w af f.right oM oM) ?_;rintro _ h1 ⟨t1,t2,p1,p2,rfl,a1,a2,Z,e2,K⟩;cases t1 with
  |w_=>simp[Tr.k_]at Z
  |node x y z=>
   obtain⟨b1,q1,q2,rfl,o1,_⟩:=a1;have ne:(Tr.node rl rs rr).k_≠[]:=by simp[Tr.k_]
   obtain⟨u,us,eu⟩:∃u us,(Tr.node rl rs rr).k_=u::us:=by cases hh:(Tr.node rl rs rr).k_ with
    |nil=>exact absurd hh ne
    |cons u us=>exact⟨u,us,rfl⟩
   rw[eu]at Z e2 f;simp[Tr.k_]at Z e2;have hx:x.k_=[]/\y=u:=by
    cases ac:x.k_ with
    |nil=>rw[ac]at Z;simp at Z;exact⟨rfl,Z.1⟩
    |cons i j=>rw[ac]at Z;have:=congrArg List.length Z;simp at this
   obtain⟨_,rfl⟩:=hx;simp[b_,aO,o1.j];refine aa (mH K.o (al.fr K) a2 (by rw[e2];exact f)) ?_;rintro _ h2 ⟨t3,p3,rfl,a3,e3,ae⟩;simp[b_];exact⟨t3,p3,rfl,a3,by rw[e3,e2,eu],K.c ae⟩
theorem At.frb{h:a_}{b:Nat}{c:List V}(f:Fr [b] h h')(o:e_ h b c)(hc:c.length≠6):∀{t:Tr}{p:Option Nat},At h t p->At h' t p
 |.w_,_,a=>a
 |.node l s r,_,⟨q,pl,pr,e,oq,al,ar⟩=>⟨q,pl,pr,e,f.I _ _ (by
  simp;rintro rfl;have:=oq.uniq o;subst this;simp at hc) oq,At.frb f o hc al,At.frb f o hc ar⟩
def Rp(h:a_)(v:V)(l:List Int):Prop:=∃t p,v=.B [pv p]/\At h t p/\t.k_=l/\I_ l
theorem Rp.fr{h:a_}{v:V}{l:List Int}(a:Rp h v l)(f:Fr [] h h'):Rp h' v l:=by let⟨t,p,e,a,x⟩:=a;exact⟨t,p,e,a.fr f,x⟩
theorem Rp.frb{h:a_}{v:V}{l:List Int}{b:Nat}{c:List V}(a:Rp h v l)(f:Fr [b] h h')(o:e_ h b c)(hc:c.length≠6):Rp h' v l:=by let⟨t,p,e,a,x⟩:=a;exact⟨t,p,e,a.frb f o hc,x⟩
theorem qO{h:a_}{v:V}{l:List Int}(w:WF h)(a:Rp h v l):ao go 197 [v] h fun u h'=>u=ZZ l.length/\Fr [] h h':=by obtain⟨t,p,rfl,a,rfl,f⟩:=a;let⟨h1,K,Z,ac⟩:=aq w [pv p];refine ah ?_;simp[b_,<-K,ac.j];refine aa (gF (a.fr Z)) ?_;rintro _ _ ⟨rfl,hh⟩;simp only[b_,seval];subst hh;exact⟨by rw[Tr.Q1],Z⟩
theorem lO{h:a_}{v:V}{l:List Int}(w:WF h)(a:Rp h v l):ao go 77 [v] h fun u h'=>u=ZZ l.sum/\Fr [] h h':=by obtain⟨t,p,rfl,a,rfl,f⟩:=a;let⟨h1,K,Z,ac⟩:=aq w [pv p];refine ah ?_;simp[b_,<-K,ac.j];refine aa (kH (a.fr Z)) ?_;rintro _ _ ⟨rfl,hh⟩;simp only[b_,seval];subst hh;exact⟨by rw[Tr.g?],Z⟩
theorem EL{a b:List Int}{i:Nat}(h:i<a.length):(a++b).getD i 0=a.getD i 0:=by simp[XF h]
theorem ud{a b:List Int}{i:Nat}(h:a.length<=i):(a++b).getD i 0=b.getD (i-a.length) 0:=by simp[YU h]
theorem KK:∀{t:Tr}{h:a_}{p:Option Nat}{i:Int},At h t p->0<=i->i<t.k_.length->I_ t.k_->
 ao go 243 [pv p,ZZ i] h fun u h'=>h'=h/\∃b c,u=.u b 0/\e_ h b c/\X8 c 2=some (ZZ (t.k_.getD i.toNat 0)):=by
 intro t;induction t with
 |w_=>intro h p i a h0 Z f;simp[Tr.k_]at Z;omega
 |node l s r ihl ihr=>intro h p i a h0 Z f;obtain⟨b,pl,pr,rfl,o,al,ar⟩:=a;have l1:=Tr.Q1 l;have f3:=f.2.2;simp only[Tr.k_,Wq,Wv]at f3 Z;have f1:I_ (l.k_++s::r.k_):=f;refine ah ?_;simp only[b_,seval,aO,o.j];refine aa (gF al) ?_;rintro _ _ ⟨rfl,rfl⟩;simp only[b_,seval];split;simp only[b_,seval,o.j];apply aa (ihl al h0 oM f1.left);rintro _ _ ⟨rfl,K,c',rfl,o',e'⟩;simp only[b_,seval];refine⟨K,c',rfl,o',?_⟩;rw[e',Tr.k_,EL oM];split;simp(disch:=omega) only[b_,seval,ag,o.j];apply aa (ihr ar oM oM f1.right.o_);rintro _ _ ⟨rfl,K,c',rfl,o',e'⟩;simp only[b_,seval];refine⟨K,c',rfl,o',?_⟩;rw[e',Tr.k_,ud oM,(oM:i.toNat-l.k_.length=(i-l.T4-1).toNat+1)];simp;refine⟨b,_,rfl,o,?_⟩;rw[cL,cL,bO,Tr.k_,ud oM,(oM:i.toNat-l.k_.length=0)];simp
theorem Jh{h:a_}{v:V}{l:List Int}{i:Int}(w:WF h)(a:Rp h v l):
 ao go 183 [v,ZZ i] h fun u h'=>(u=if 0<=i/\i<l.length then .D [ZZ (l.getD i.toNat 0),ZZ 0]else .D [ZZ 0,ZZ 4])/\Fr [] h h':=by
 have a0:=a;obtain⟨t,p,rfl,a,rfl,f⟩:=a;let⟨h1,K,Z,ac⟩:=aq w [pv p];have f3:=f.2.2;by_cases h0:i<0;refine ah ?_;simp only[b_,seval,<-K,h0];exact⟨by rw[if_neg oM],Z⟩;refine ah ?_;simp only[b_,seval,<-K,ac.N,h0];apply aa (qO Z.o (a0.fr Z));rintro _ h2 ⟨rfl,F2⟩;by_cases h3:(t.k_.length:Int)<=i;simp only[b_,seval,h3];exact⟨by rw[if_neg oM],Z.c F2⟩;simp only[b_,seval,h3,(F2.i ac).j];apply aa (KK (a.fr (Z.c F2)) oM oM f);rintro _ _ ⟨rfl,b,c,rfl,o,e⟩;simp only[b_,seval,o.j,e];exact⟨by rw[if_pos oM],Z.c F2⟩
theorem Nz{h:a_}{v:V}{l:List Int}{i:Int}(w:WF h)(a:Rp h v l):
 ao go 147 [v,ZZ i] h fun u h'=>(u=if 0<=i/\i<=l.length then .D [ZZ (l.take i.toNat).sum,ZZ 0]else .D [ZZ 0,ZZ 4])/\Fr [] h h':=by
 have a0:=a;obtain⟨t,p,rfl,a,rfl,f⟩:=a;let⟨h1,K,Z,ac⟩:=aq w [pv p];have f3:=f.2.2;by_cases h0:i<0
 ·refine ah ?_;simp only[b_,seval,<-K,h0];exact⟨by rw[if_neg oM],Z⟩
 ·refine ah ?_;simp[b_,<-K,ac.N,h0];refine aa (qO Z.o (a0.fr Z)) ?_;rintro _ h2 ⟨rfl,F2⟩;by_cases h3:(t.k_.length:Int)<i
  ·simp only[b_,seval,h3];exact⟨by rw[if_neg oM],Z.c F2⟩
  ·simp[b_,h3,(F2.i ac).j];have ae:=Z.c F2;refine aA (fun k env hh=>hh=h2/\∃(x:Tr)(q:Option Nat)(j s:Int),env.c_ 7=some (pv q)/\env.c_ 1=some (ZZ j)/\env.c_ 6=some (ZZ s)/\At h2 x q/\I_ x.k_/\
    0<=j/\j<=x.k_.length/\0<=s/\s+x.k_.sum<=4611686018427387904/\s+(x.k_.take j.toNat).sum=(t.k_.take i.toNat).sum/\k=x.k_.length) t.k_.length oM ?_ ?_
   ·refine⟨rfl,t,p,i,0,?_,?_,?_,a.fr ae,f,oM,oM,oM,by have:=f.2.1;omega,oM,rfl⟩;all_goals simp
   ·rintro k env hh ⟨rfl,x,q,j,s,g7,g1,g6,ax,fx,j0,j1,s0,s1,es,rfl⟩;cases x with
    |w_=>
     have ax:q=none:=ax;subst ax;simp[b_,g7,g6];refine⟨?_,ae⟩;rw[if_pos oM];simp only[Tr.k_,List.take_nil,List.sum_nil]at es;rw[<-es];simp
    |node l' s' r'=>
     obtain⟨b,pl,pr,rfl,o,al,ar⟩:=ax;have l1:=Tr.Q1 l';have l2:=Tr.g? l';have fl:=fx;simp only[Tr.k_]at fl j1 s1 es;have nl:=fl.left.nn;have nr:=fl.right.o_.nn;have ns:0<=s':=fl.1 s' iS;have af:=fl.2.2;simp only[Wq,Wv,XG,XH]at af j1 s1;by_cases hj:0<j
     ·simp only[b_,seval,g7,g1,aO,hj,o.j];apply aa (gF al);rintro _ _ ⟨rfl,rfl⟩;simp only[b_,seval,j_,g7,g1,g6,aO,o.j];by_cases hk:j<=l'.T4
      ·simp only[b_,seval,hk];refine s_ ⟨l'.k_.length,by simp only[Tr.k_,Wq,Wv];omega,rfl,l',pl,j,s,iS,iX,iX,al,fl.left,j0,oM,s0,oM,?_,rfl⟩;rw[<-es,Xi oM]
      ·simp only[b_,seval,hk];apply aa (kH al);rintro _ _ ⟨rfl,rfl⟩;simp(disch:=omega) only[b_,seval,DF,j_,ag,g7,g1,aO,o.j];refine s_ ⟨r'.k_.length,by simp[Tr.k_];omega,rfl,r',pr,j-(l'.T4+1),s+(l'.U?+s'),iS,iS,iS,ar,fl.right.o_,oM,oM,oM,oM,?_,rfl⟩;rw[<-es,(oM:j.toNat=l'.k_.length+1+(j-(l'.T4+1)).toNat),vF];simp;omega
     ·simp[b_,g7,g1,g6,hj];refine⟨?_,ae⟩;rw[if_pos oM];rw[(oM:j.toNat=0)]at es;simp at es;rw[<-es]
def aG:List Int->Int->Nat×Int
 |[],x=>(0,x)
 |s::l,x=>if x<s then(0,x)else((aG l (x-s)).1+1,(aG l (x-s)).2)
theorem qW:∀(a b:List Int)(x:Int),0<=x->x<a.sum->(∀y∈a,0<=y)->aG (a++b) x=aG a x
 |[],b,x,h0,h1,hp=>by simp at h1;omega
 |s::a,b,x,h0,h1,hp=>by simp[aG];split;rfl;rw[qW a b (x-s) oM (by simp at h1;omega) (fun y hy=>hp y iX)]
theorem pA:∀(a b:List Int)(x:Int),a.sum≤x→(∀y∈a,0≤y)→aG (a++b) x=(a.length+(aG b (x-a.sum)).1,(aG b (x-a.sum)).2)
 |[],b,x,h1,hp=>by simp
 |s::a,b,x,h1,hp=>by have hs:=hp s iS;have ha:=i? (l:=a) fun y hy=>hp y iX;simp only[List.sum_cons]at h1;simp only[List.cons_append,aG];rw[if_neg oM,pA a b (x-s) oM (fun y hy=>hp y iX)];simp only[List.sum_cons,List.length_cons,(oM:x-s-a.sum=x-(s+a.sum))];ext<;>simp;omega
theorem Lu{h:a_}{v:V}{l:List Int}{x:Int}(w:WF h)(a:Rp h v l)(az:-9223372036854775808<=x)(ax:x<=9223372036854775807):
 ao go 167 [v,ZZ x] h fun u h'=>(u=if 0<=x/\x<l.sum then .D [ZZ (aG l x).1,ZZ (aG l x).2,ZZ 0]else .D [ZZ 0,ZZ 0,ZZ 4])/\Fr [] h h':=by
 have a0:=a;obtain⟨t,p,rfl,a,rfl,f⟩:=a;let⟨h1,ac,Z,ae⟩:=aq w [pv p];have f3:=f.2.2;by_cases h0:x<0
 ·refine ah ?_;simp only[b_,seval,<-ac,h0];exact⟨by rw[if_neg oM],Z⟩
 ·refine ah ?_;simp[b_,<-ac,ae.N,h0];refine aa (lO Z.o (a0.fr Z)) ?_;rintro _ h2 ⟨rfl,F2⟩;by_cases h3:t.k_.sum<=x
  ·simp only[b_,seval,h3];exact⟨by rw[if_neg oM],Z.c F2⟩
  ·simp[b_,h3,(F2.i ae).j];have af:=Z.c F2;refine aA (fun k env hh=>hh=h2/\∃(y:Tr)(q:Option Nat)(i r:Int),env.c_ 7=some (pv q)/\env.c_ 4=some (ZZ i)/\env.c_ 5=some (ZZ r)/\At h2 y q/\I_ y.k_/\
   0<=i/\i+y.k_.length<=t.k_.length/\0<=r/\r<y.k_.sum/\i+(aG y.k_ r).1=(aG t.k_ x).1/\(aG y.k_ r).2=(aG t.k_ x).2/\k=y.k_.length) t.k_.length oM ?_ ?_
   ·refine⟨rfl,t,p,0,x,?_,?_,?_,a.fr af,f,oM,oM,oM,oM,oM,rfl,rfl⟩;all_goals simp
   ·rintro k env hh ⟨rfl,y,q,i,r,g7,g4,g5,ay,fy,i0,i1,r0,r1,e1,e2,rfl⟩;cases y with
    |w_=>simp[Tr.k_]at r1;omega
    |node l' s' r'=>
     obtain⟨b,pl,pr,rfl,o,al,ar⟩:=ay;have l1:=Tr.Q1 l';have l2:=Tr.g? l';have K:=fy;simp only[Tr.k_]at K i1 r1 e1 e2;have nl:=K.left.nn;have nr:=K.right.o_.nn;have ns:0<=s':=K.1 s' iS;have an:=K.2.2;have ak:=K.2.1;simp only[Wq,Wv,XG,XH]at an i1 r1 ak;simp only[b_,seval,g7,aO,o.j];apply aa (kH al);rintro _ _ ⟨rfl,rfl⟩;simp(disch:=omega) only[b_,seval,ag,g7,g4,g5,aO,o.j];by_cases hk:r<l'.U?
     ·simp only[b_,seval,hk];rw[qW _ _ _ r0 oM K.left.1]at e1 e2;refine s_ ⟨l'.k_.length,by simp only[Tr.k_,Wq,Wv];omega,rfl,l',pl,i,r,iS,iX,iX,al,K.left,i0,oM,r0,oM,e1,e2,rfl⟩
     ·rw[pA _ _ _ oM K.left.1]at e1 e2;by_cases hm:r<l'.U?+s'
      ·simp only[b_,seval,hk,hm];apply aa (gF al);rintro _ _ ⟨rfl,rfl⟩;simp(disch:=omega)[b_,ag,g5];refine⟨?_,af⟩;rw[if_pos oM,<-e1,<-e2];simp only[aG,if_pos (oM:r-l'.k_.sum<s'),l2,l1];simp
      ·simp only[b_,seval,hk,hm];apply aa (gF al);rintro _ _ ⟨rfl,rfl⟩;simp(disch:=omega) only[b_,seval,ag,g7,aO,o.j];simp only[aG,if_neg (oM:¬r-l'.k_.sum<s')]at e1 e2;refine s_ ⟨r'.k_.length,by simp[Tr.k_];omega,rfl,r',pr,i+(l'.T4+1),r-(l'.U?+s'),iS,iS,iS,ar,K.right.o_,oM,oM,oM,oM,?_,?_,rfl⟩
       ·grind
       ·grind
def Q5{α:Type}(f:α->V)(h:a_)(v:V)(l:List α):Prop:=Sl h 1 v l.length (l.map f)
theorem Q5.fr{f:α->V}{h:a_}{v:V}{l:List α}(a:Q5 f h v l)(r:Fr [] h h'):Q5 f h' v l:=Sl.fr a r
theorem Q5.t_{f:α->V}{h:a_}{v:V}{l:List α}(a:Q5 f h v l):aP .d [v]=some (ZZ l.length):=Sl.t_ a
theorem Q5.ix{f:α->V}{h:a_}{v:V}{l:List α}(a:Q5 f h v l)(k:IntKind)(i:Int)(h0:0<=i)(K:i<l.length):
 ∃b o x,aP (.c 1) [v,.A k i]=some (.u b o)/\ab h b o=some (f x)/\l[i.toNat]? =some x:=by
 let⟨b,o,e,g,_⟩:=Sl.ix a k i h0 K;have Z:i.toNat<l.length:=oM;refine⟨b,o,l[i.toNat],e,?_,by simp⟩;have:=g 0 oM;simpa[Z]using this
theorem Q5.upto{f:α->V}{h:a_}{v:V}{l:List α}(a:Q5 f h v l)(hv:v≠.L)(k:IntKind)(i:Int)(h0:0<=i)(Z:i<=l.length):
 ∃v',aP (.s none 1 false true false) [v,.A k i]=some v'/\Q5 f h v' (l.take i.toNat):=by
 let⟨v',e,s⟩:=Sl.upto a oM hv k i h0 Z;refine⟨v',e,?_⟩;unfold Q5;rw[Yk,XN oM,Zi];simpa using s
theorem Q5.from'{f:α->V}{h:a_}{v:V}{l:List α}(a:Q5 f h v l)(hv:v≠.L)(k:IntKind)(i:Int)(h0:0<=i)(Z:i<=l.length):
 ∃v',aP (.s none 1 true false false) [v,.A k i]=some v'/\Q5 f h v' (l.drop i.toNat):=by
 let⟨v',e,s⟩:=Sl.from' a oM hv k i h0 Z;refine⟨v',e,?_⟩;unfold Q5;rw[Yl,List.map_drop];simpa using s
abbrev lP(h:a_)(v:V)(l:List Int):Prop:=Q5 (V.A .i64) h v l
abbrev P9(h:a_)(v:V)(l:List Bool):Prop:=Q5 V.h h v l
def Z1:List Int->Int->Int
 |[],_=>0
 |s::l,t=>if s<0\/2305843009213693952<s then 12 else if 4611686018427387904-t<s then 13 else Z1 l (t+s)
theorem aL{l:List α}{i:Nat}{x:α}(h:l[i]? =some x):l.drop i=x::l.drop (i+1):=by
 have Z:i<l.length:=by grind
 rw[Xf Z];congr 1;rw[Wf Z]at h;cases h;rfl
theorem uW{h:a_}{v:V}{l:List Int}(w:WF h)(a:lP h v l)(hn:l.length<=1000000):
 ao go 273 [v] h fun u h'=>u=ZZ (if 4096<l.length then 3 else Z1 l 0)/\h'=h:=by
 by_cases hl:(4096:Int)<l.length;refine ah ?_;simp only[b_,seval,a.t_,hl];rw[if_pos oM];refine ah ?_;simp[b_,a.t_,hl];refine aA (fun k env hh=>hh=h/\∃(i:Nat)(t:Int),env.c_ 11=some (ZZ i)/\env.c_ 3=some (ZZ t)/\env.c_ 9=some v/\env.c_ 10=some (ZZ l.length)/\
  i<=l.length/\0<=t/\t<=4611686018427387904/\Z1 (l.drop i) t=Z1 l 0/\k=l.length-i) l.length oM ?_ ?_
 exact⟨rfl,0,0,iS,iS,iS,iS,oM,oM,oM,iS,rfl⟩;rintro k env hh ⟨rfl,i,t,g11,g3,g9,K,hi,t0,t1,e,rfl⟩;by_cases Z:(i:Int)<l.length;let⟨b,o,x,e1,e2,e3⟩:=a.ix .i64 i oM Z;simp at e3;rw[aL e3,Z1]at e;by_cases h1:x<0;simp only[b_,seval,g11,g9,K,Z,e1,e2,h1];rw[if_neg oM,<-e,if_pos (.inl h1)];by_cases h2:2305843009213693952<x;simp only[b_,seval,g11,g9,K,Z,e1,e2,h1,h2];rw[if_neg oM,<-e,if_pos (.inr h2)];rw[if_neg oM]at e;by_cases h3:4611686018427387904-t<x;simp(disch:=omega) only[b_,seval,ag,g11,g3,g9,K,Z,e1,e2,h1,h2,h3];rw[if_neg oM,<-e,if_pos h3];simp(disch:=omega) only[b_,seval,ag,g11,g3,g9,K,Z,e1,e2,h1,h2,h3];rw[if_neg h3]at e;refine s_ ⟨l.length-(i+1),oM,rfl,i+1,t+x,iS,iS,iX,iX,oM,oM,oM,e,rfl⟩;simp only[b_,seval,g11,K,Z];rw[if_neg oM,<-e,Wo oM,Z1]
theorem Ac{l:List Int}{i:Nat}{x:Int}(h:l[i]? =some x):l=l.take i++x::l.drop (i+1):=by rw[<-aL h,WO]
theorem EK:∀(n:Nat){h:a_}{v:V}{l:List Int},l.length<=n->WF h->lP h v l->I_ l->
 ao go 312 [v] h fun u h'=>∃t p,u=pv p/\At h' t p/\t.k_=l/\Fr [] h h':=by
 intro n;induction n with
 |zero=>intro h v l hn w a f;have:l=[]:=Wu.1 oM;subst this;have hz:=a.t_;simp at hz;refine ah ?_;simp[b_,hz];exact⟨.w_,none,rfl,rfl,rfl,Wl w⟩
 |succ n ih=>intro h v l hn w a f;by_cases h0:(l.length:Int)=0;grind;have f3:=f.2.2;have hv:v≠.L:=Sl.ne a oM;have hm:Int.tdiv (l.length:Int) 2=((l.length/2:Nat):Int):=(Int.ofNat_tdiv l.length 2).symm;obtain⟨m,em⟩:∃m:Nat,m=l.length/2:=⟨_,rfl⟩;rw[<-em]at hm;let⟨v1,s1,i1⟩:=a.upto hv .i64 m oM oM;let⟨v2,s2,i2⟩:=a.from' hv .i64 (m+1) oM oM;let⟨b,o,x,e1,e2,e3⟩:=a.ix .i64 m oM oM;simp only[pi]at i1 i2 e3;rw[(oM:((m:Int)+1).toNat=m+1)]at i2;have el:=Ac e3;have f':I_ (l.take m++x::l.drop (m+1)):=el▸f;refine ah ?_;simp(disch:=omega) only[b_,seval,j_,ag,a.t_,h0,qL _ _ 2 dI,hm,s1];refine aa (ih oO w i1 f'.left) ?_;rintro _ h1 ⟨t1,p1,rfl,a1,ax,K⟩;let⟨b',o',x',az,an,ak⟩:=(a.fr K).ix .i64 m oM oM;simp at ak;rw[e1]at az;cases az;rw[e3]at ak;cases ak;simp(disch:=omega)[b_,j_,ag,e1,an,s2];apply aa (ih oO K.o (i2.fr K) f'.right.o_);rintro _ h2 ⟨t2,p2,rfl,a2,ar,af⟩;have ac:=K.c af;let⟨aN,aR,aJ,ae,ay,Z⟩:=(a.fr ac).ix .i64 m oM oM;simp at Z;rw[e1]at ae;cases ae;rw[e3]at Z;cases Z;simp[b_,j_];refine aa (dO af.o (a1.fr af) a2 (by rw[ax,ar];exact f')) ?_;rintro _ h3 ⟨b3,rfl,a3,aH⟩;simp[b_,DF,j_,e2,an,ay];exact⟨_,_,rfl,a3,by rw[Tr.k_,ax,ar];exact el.symm,ac.c aH⟩
theorem H4{h:a_}{v:V}{l:List Int}(w:WF h)(a:lP h v l)(f:I_ l):
 ao go 312 [v] h fun u h'=>∃t p,u=pv p/\At h' t p/\t.k_=l/\Fr [] h h':=EK _ (VZ _) w a f
theorem Da:∀(l:List Int)(t:Int),Z1 l t=0→0≤t→(∀x∈l,0≤x)∧t+l.sum≤4611686018427387904∨l=[]
 |[],t,_,_=>.inr rfl
 |s::l,t,h,h0=>by rw[Z1]at h;by_cases h1:s<0∨2305843009213693952<s;omega;rw[if_neg h1]at h;by_cases h2:4611686018427387904-t<s;omega;rw[if_neg h2]at h;obtain⟨a,b⟩|rfl:=Da l (t+s) h oM;grind;grind
theorem I_.of_chk{l:List Int}(h:Z1 l 0=0)(Z:l.length<=1000000):I_ l:=by obtain⟨a,b⟩|rfl:=Da l 0 h oM;exact⟨a,oM,oM⟩;exact⟨iS,iS,iS⟩
theorem NC{h:a_}{v:V}{l:List Int}(w:WF h)(a:lP h v l)(hn:l.length<=1000000):
 ao go 301 [v] h fun u h'=>Fr [] h h'/\∃c e,u=.D [.B [c],ZZ e]/\c.U=true/\(e=if 4096<l.length then 3 else Z1 l 0)/\(e=0->Rp h' (.B [c]) l):=by
 let⟨h1,ac,Z,K⟩:=aq w [.O];by_cases he:(if 4096<l.length then 3 else Z1 l 0)=0;have hc:Z1 l 0=0:=by by_cases h4:4096<l.length;rw[if_pos h4]at he;omega;rw[if_neg h4]at he;exact he
 have f:=I_.of_chk hc hn;refine ah ?_;simp[b_,<-ac];refine aa (uW Z.o (a.fr Z) hn) ?_;rintro _ _ ⟨rfl,hh⟩;subst hh;simp[b_,he];refine aa (H4 Z.o (a.fr Z) f) ?_;rintro _ h2 ⟨t,p,rfl,at',et,F2⟩;simp[b_];refine ai (c':=[pv p]) F2.o (F2.i K) rfl (by simp[aw,gH,V.s]) rfl ?_;rintro h3 o3 F3 n3;simp only[b_,seval,o3.N];exact⟨(Z.c F2).z F3 w (VZ _),_,_,rfl,gH _,rfl,fun _=>⟨t,p,rfl,at'.frb F3 (F2.i K) iS,et,f⟩⟩;refine ah ?_;simp[b_,<-ac];refine aa (uW Z.o (a.fr Z) hn) ?_;rintro _ _ ⟨rfl,hh⟩;subst hh;simp[b_,he];apply B_ Z.o K;rintro h3 o3 F3 n3;simp only[b_,seval,o3.N];exact⟨Z.z F3 w (VZ _),_,_,rfl,rfl,rfl,fun e=>absurd e he⟩
theorem Own.ne{h:a_}{b Z:Nat}{c c':List V}(o:e_ h b c)(K:e_ h Z c')(hc:c≠c'):b≠Z:=by rintro rfl;exact hc (o.uniq K)
theorem FE{h:a_}{v:V}{l:List Int}{i:Int}(w:WF h)(a:Rp h v l):
 ao go 300 [v,ZZ i] h fun u h'=>Fr [] h h'/\if 0<=i/\i<=l.length then∃r1 r2,u=.D [r1,r2,ZZ 0]/\Rp h' r1 (l.take i.toNat)/\Rp h' r2 (l.drop i.toNat)
  else u=.D [.B [.O],.B [.O],ZZ 4]:=by
 have a0:=a;obtain⟨t,p,rfl,a,rfl,f⟩:=a;have f3:=f.2.2;let⟨h1,aJ,an,a5⟩:=aq w [pv p];let⟨h2,ar,ak,a4⟩:=aq an.o [.O];let⟨h3,aN,aH,af⟩:=aq ak.o [.O];have ae:=(an.c ak).c aH;have o1:=aH.i (ak.i a5);have o2:=aH.i a4;have ne:h1.e≠h2.e:=by rw[ar];simp[kZ]
 have b1:h.e<=h1.e:=an.e;have b2:h.e<=h2.e:=(an.c ak).e;by_cases h0:i<0;refine ah ?_;simp[b_,<-aJ,<-ar,<-aN,h0];refine B_ ae.o o2 ?_;rintro h5 ay K a3;simp[b_];refine B_ K.o (K.I _ _ oO af) ?_;rintro h6 ac Z aR;simp only[b_,seval,ac.N,(Z.I _ _ oO ay).N];rw[if_neg oM];exact⟨(ae.z K w b1).z Z w b2,trivial⟩;refine ah ?_;simp[b_,<-aJ,<-ar,<-aN,o1.N,h0];refine aa (qO ae.o (a0.fr ae)) ?_;rintro _ h4 ⟨rfl,F4⟩;by_cases hi:(t.k_.length:Int)<i;simp[b_,hi];apply B_ F4.o (F4.i o2);rintro h5 ay K a3;simp[b_];apply B_ K.o (K.I _ _ oO (F4.i af));rintro h6 ac Z aR;simp only[b_,seval,ac.N,(Z.I _ _ oO ay).N];rw[if_neg oM];exact⟨((ae.c F4).z K w b1).z Z w b2,trivial⟩;simp[b_,hi,(F4.i o1).j];apply aa (oW F4.o (a.fr (ae.c F4)) f oM oM);rintro _ h5 ⟨t1,t2,p1,p2,rfl,a1,a2,e1,e2,F5⟩;simp[b_];have az:=F4.c F5;apply B_ F5.o (az.i o2);rintro h6 ac Z aR;simp[b_];apply B_ Z.o (Z.I _ _ oO (az.i af));rintro h7 aT ax a6;simp only[b_,seval,aT.N,(ax.I _ _ oO ac).N];rw[if_pos oM];have c1:∀{t:Tr}{p:Option Nat},At h5 t p->At h7 t p:=fun x=>(x.frb Z (az.i o2) iS).frb ax (Z.I _ _ oO (az.i af)) iS;exact⟨((ae.c az).z Z w b1).z ax w b2,_,_,rfl,⟨t1,p1,rfl,c1 a1,e1,f.sub (Xp _ _)⟩,⟨t2,p2,rfl,c1 a2,e2,f.sub (Yh _ _)⟩⟩
def kC(l m:List Int):Int:=if 4096<l.length+m.length then 3 else if 4611686018427387904-m.sum<l.sum then 13 else 0
theorem Lr{h:a_}{v u:V}{l m:List Int}(w:WF h)(a:Rp h v l)(a':Rp h u m):
 ao go 302 [v,u] h fun z h'=>Fr [] h h'/\∃c,z=.D [.B [c],ZZ (kC l m)]/\c.U=true/\(kC l m=0->Rp h' (.B [c]) (l++m)):=by
 have a0:=a;have a1:=a';obtain⟨t,p,rfl,a,rfl,f⟩:=a;obtain⟨t',p',rfl,a',rfl,f'⟩:=a';have f3:=f.2.2;have ba:=f'.2.2;have n:=f.nn;have n':=f'.nn;have f2:=f.2.1;have a9:=f'.2.1;let⟨h1,ay,ak,a5⟩:=aq w [pv p];let⟨h2,az,af,aT⟩:=aq ak.o [pv p'];let⟨h3,aJ,an,ae⟩:=aq af.o [.O];have Z:=(ak.c af).c an;have o1:=an.i (af.i a5);have o2:=an.i aT;have b2:h.e<=h2.e:=(ak.c af).e;refine ah ?_;simp[b_,j_,<-ay,<-az,<-aJ,o1.N];refine aa (qO Z.o (a0.fr Z)) ?_;rintro _ h4 ⟨rfl,F4⟩;simp[b_,j_,(F4.i o2).N];apply aa (qO F4.o (a1.fr (Z.c F4)));rintro _ h5 ⟨rfl,F5⟩;simp(disch:=omega)[b_,DF,j_,ag,o1.N,o2.N,(F4.i o2).N];have ac:=F4.c F5;by_cases c1:(4096:Int)<t.k_.length+t'.k_.length;simp[c1];apply B_ F5.o (ac.i ae);rintro h6 a4 aH a7;simp only[b_,seval,a4.N];have e:kC t.k_ t'.k_=3:=by unfold kC;rw[if_pos oM]
 rw[e];exact⟨(Z.c ac).z aH w b2,_,rfl,rfl,iS⟩;simp[b_,j_,c1,(ac.i o1).N];apply aa (lO F5.o (a0.fr (Z.c ac)));rintro _ h6 ⟨rfl,F6⟩;have ar:=ac.c F6;simp[b_,j_,(ar.i o2).N];apply aa (lO F6.o (a1.fr (Z.c ar)));rintro _ h7 ⟨rfl,F7⟩;have K:=ar.c F7;simp(disch:=omega)[b_,DF,j_,ag,(ac.i o1).N,(ar.i o2).N,(ac.i o2).N];by_cases c2:4611686018427387904-t'.k_.sum<t.k_.sum;simp[c2];apply B_ F7.o (K.i ae);rintro h8 aR a3 a8;simp only[b_,seval,aR.N];have e:kC t.k_ t'.k_=13:=by unfold kC;rw[if_neg oM,if_pos c2]
 rw[e];exact⟨(Z.c K).z a3 w b2,_,rfl,rfl,iS⟩;simp[b_,c2,(K.i o1).j,(K.i o2).j];have ff:I_ (t.k_++t'.k_):=⟨fun x hx=>by obtain y|y:=Wa.1 hx;exact f.1 x y;exact f'.1 x y,by rw[XG];omega,by rw[Wq];omega⟩
 apply aa (Bm F7.o (a.fr (Z.c K)) (a'.fr (Z.c K)) ff);rintro _ h8 ⟨t2,p2,rfl,a2,e2,F8⟩;simp[b_];apply B_ F8.o ((K.c F8).i ae);rintro h9 aN ax a6;simp only[b_,seval,aN.N];have e:kC t.k_ t'.k_=0:=by unfold kC;rw[if_neg oM,if_neg c2]
 rw[e];exact⟨(Z.c (K.c F8)).z ax w b2,_,rfl,gH _,fun _=>⟨t2,p2,rfl,a2.frb ax ((K.c F8).i ae) iS,e2,ff⟩⟩
def mW(l:List Int)(i size:Int):Int:=if 0<=i/\i<l.length then if size<0\/2305843009213693952<size then 12 else if 4611686018427387904-(l.sum-l.getD i.toNat 0)<size then 13 else 0 else 4
theorem Cq:∀(l:List Int)(i:Nat)(x:Int),i<l.length→(l.set i x).sum=l.sum-l.getD i 0+x
 |y::l,0,x,_=>by simp;omega
 |y::l,i+1,x,h=>by have:=Cq l i x (eV h);simp at this⊢;omega
theorem D1:∀(l:List Int)(i:Nat)(x:Int),i<l.length->l.set i x=l.take i++x::l.drop (i+1):=by intro l i x h;rw[XL,if_pos h]
theorem I_.set{l:List Int}(f:I_ l){i:Nat}{x:Int}(Z:i<l.length)(h0:0<=x)(h1:x<=4611686018427387904-(l.sum-l.getD i 0)):I_ (l.set i x):=by refine⟨fun y K=>?_,?_,?_⟩;obtain a|a:=WQ K;exact f.1 y a;omega;rw[Cq _ _ _ Z];omega;rw[WV];exact f.2.2
theorem xZ:∀{l:List Int}{i:Nat},(∀x∈l,0≤x)→l.getD i 0≤l.sum∧0≤l.getD i 0
 |[],i,_=>by simp
 |y::l,0,h=>by have:=i? (l:=l) fun z hz=>h z iX;have:=h y iS;simp;omega
 |y::l,i+1,h=>by have:=xZ (l:=l) (i:=i) fun z hz=>h z iX;have:=h y iS;simp at *;omega
theorem Li{h:a_}{v:V}{l:List Int}{i:Int}(w:WF h)(a:Rp h v l)(s0:-9223372036854775808<=size)(s1:size<=9223372036854775807):
 ao go 164 [v,ZZ i,ZZ size] h fun u h'=>Fr [] h h'/\∃c,u=.D [.B [c],ZZ (mW l i size)]/\c.U=true/\(mW l i size=0->Rp h' (.B [c]) (l.set i.toNat size)):=by
 have a0:=a;obtain⟨t,p,rfl,a,rfl,f⟩:=a;have f3:=f.2.2;have f2:=f.2.1;have n:=f.nn;have gd:=xZ (i:=i.toNat) f.1;let⟨h1,aH,af,a6⟩:=aq w [pv p];let⟨h2,aJ,an,Z⟩:=aq af.o [.O];have K:=af.c an;have o1:=an.i a6;have b1:h.e<=h1.e:=af.e;refine ah ?_;simp[b_,<-aH,<-aJ,o1.N];refine aa (Jh K.o (a0.fr K)) ?_;rintro _ h3 ⟨rfl,F3⟩;by_cases hi:0<=i/\i<t.k_.length;rw[if_pos hi];by_cases c1:size<0;simp only[b_,↓reduceIte,Nat.reduceEqDiff,c1];apply B_ F3.o (F3.i Z);rintro h4 ac ae ax;simp only[b_,↓reduceIte,Nat.reduceEqDiff,ac.N];have e:mW t.k_ i size=12:=by unfold mW;rw[if_pos hi,if_pos (.inl c1)]
 rw[e];exact⟨(K.c F3).z ae w b1,_,rfl,rfl,iS⟩;by_cases c2:2305843009213693952<size;simp only[b_,↓reduceIte,Nat.reduceEqDiff,c1,c2];apply B_ F3.o (F3.i Z);rintro h4 ac ae ax;simp only[b_,↓reduceIte,Nat.reduceEqDiff,ac.N];have e:mW t.k_ i size=12:=by unfold mW;rw[if_pos hi,if_pos (.inr c2)]
 rw[e];exact⟨(K.c F3).z ae w b1,_,rfl,rfl,iS⟩;simp only[b_,↓reduceIte,Nat.reduceEqDiff,c1,c2,(F3.i o1).N];apply aa (lO F3.o (a0.fr (K.c F3)));rintro _ h4 ⟨rfl,F4⟩;have ak:=F3.c F4;by_cases c3:4611686018427387904-(t.k_.sum-t.k_.getD i.toNat 0)<size;simp(disch:=omega) only[b_,↓reduceIte,Nat.reduceEqDiff,ag,c3];apply B_ F4.o (ak.i Z);rintro h5 aR az a8;simp only[b_,↓reduceIte,Nat.reduceEqDiff,aR.N];have e:mW t.k_ i size=13:=by unfold mW;rw[if_pos hi,if_neg oM,if_pos c3]
 rw[e];exact⟨(K.c ak).z az w b1,_,rfl,rfl,iS⟩;simp(disch:=omega) only[b_,↓reduceIte,Nat.reduceEqDiff,ag,c3,(ak.i o1).j];apply aa (oW F4.o (a.fr (K.c ak)) f oM oM);rintro _ h5 ⟨t1,t2,p1,p2,rfl,a1,a2,e1,e2,F5⟩;simp only[b_,↓reduceIte];refine aa (oW F5.o a2 (by rw[e2];exact f.sub (Yh _ _)) oM oM) ?_;rintro _ h6 ⟨t3,t4,p3,p4,rfl,a3,a4,e3,e4,F6⟩;simp only[b_,↓reduceIte,Nat.reduceEqDiff];have aN:i.toNat<t.k_.length:=oM;have ff:=f.set aN (oM:0<=size) oM;have el:t1.k_++size::t4.k_=t.k_.set i.toNat size:=by rw[e1,e4,e2,D1 _ _ _ aN,(iR:(1:Int).toNat=1),Xx]
 refine aa (mH F6.o (a1.fr F6) a4 (by rw[el];exact ff)) ?_;rintro _ h7 ⟨t5,p5,rfl,a5,e5,F7⟩;simp only[b_,↓reduceIte,Nat.reduceEqDiff];have ay:=((ak.c F5).c F6).c F7;apply B_ F7.o (ay.i Z);rintro h8 aT ar a7;simp only[b_,↓reduceIte,Nat.reduceEqDiff,aT.N];have e:mW t.k_ i size=0:=by unfold mW;rw[if_pos hi,if_neg oM,if_neg c3]
 rw[e];exact⟨(K.c ay).z ar w b1,_,rfl,gH _,fun _=>⟨t5,p5,rfl,a5.frb ar (ay.i Z) iS,e5.trans el,ff⟩⟩;rw[if_neg hi];simp only[b_,↓reduceIte,Nat.reduceEqDiff];simp;apply B_ F3.o (F3.i Z);rintro h4 ac ae ax;simp only[b_,↓reduceIte,Nat.reduceEqDiff,ac.N];have e:mW t.k_ i size=4:=by unfold mW;rw[if_neg hi]
 rw[e];exact⟨(K.c F3).z ae w b1,_,rfl,rfl,iS⟩
def ofE(m:List Int):Int:=if 4096<m.length then 3 else Z1 m 0
def uZ(l:List Int)(i:Int)(m:List Int):Int:=if 0<=i/\i<=l.length then if ofE m=0 then kC l m else ofE m else 4
theorem Lj{h:a_}{v u:V}{l m:List Int}{i:Int}(w:WF h)(a:Rp h v l)(am:lP h u m)(hm:m.length<=1000000):
 ao go 274 [v,ZZ i,u] h fun z h'=>Fr [] h h'/\∃c,z=.D [.B [c],ZZ (uZ l i m)]/\c.U=true/\(uZ l i m=0->Rp h' (.B [c]) (l.take i.toNat++m++l.drop i.toNat)):=by
 have a0:=a;obtain⟨t,p,rfl,a,rfl,f⟩:=a;let⟨h1,bT,bf,cl⟩:=aq w [pv p];let⟨h2,ch,bk,bj⟩:=aq bf.o [.O];have bE:=bf.c bk;have o1:=bk.i cl;have b1:h.e<=h1.e:=bf.e;refine ah ?_;simp only[b_,↓reduceIte,Nat.reduceEqDiff,Nat.reduceAdd,<-bT,<-ch,o1.N];refine aa (FE bE.o (a0.fr bE)) ?_;rintro _ h3 ⟨F3,hu⟩;have bA:=bE.c F3;have b3:h.e<=h3.e:=bA.e;by_cases hi:0<=i/\i<=t.k_.length;rw[if_pos hi]at hu;obtain⟨r1,r2,rfl,ra,rb⟩:=hu;obtain⟨t1,p1,rfl,a1,e1,f1⟩:=ra;obtain⟨t2,p2,rfl,a2,e2,f2⟩:=rb;let⟨h4,ay,ae,aT⟩:=aq F3.o [.O];let⟨h5,a7,az,a8⟩:=aq ae.o [.O];have an:=ae.c az;have ne:h3.e≠h4.e:=by rw[ay];simp[kZ]
 simp only[b_,↓reduceIte,Nat.reduceEqDiff,<-ay,<-a7];apply B_ an.o (az.i aT);rintro h6 bm Z ca;simp only[b_,↓reduceIte];apply B_ Z.o (Z.I _ _ oO a8);rintro h7 aR K ci;simp only[b_,↓reduceIte,Nat.reduceEqDiff];have oa:=K.I _ _ oO bm;have b4:h.e<=h4.e:=Wy b3 ae.e;have aN:=((bA.c an).z Z w b3).z K w b4;have keep:∀{b:Nat}{c:List V},e_ h3 b c->e_ h7 b c:=fun o=>K.I _ _ (by have:=o.lt F3.o;have:=ae.e;simp;omega) (Z.I _ _ (by have:=o.lt F3.o;simp;omega) (an.i o));have bv:Fr [] h3 h7:=⟨by have:=an.e;omega,K.o,fun _ _ _ o=>keep o,fun x c _ o=>K.pl _ _ (by have:=o.I.lt F3.o;have:=ae.e;simp;omega) (Z.pl _ _ (by have:=o.I.lt F3.o;simp;omega) (an.pl _ _ iS o)),fun x k hk o=>K.lp _ _ hk (Z.lp _ _ hk (an.lp _ _ hk o)),fun x c r=>K.ro _ _ (Z.ro _ _ (an.ro _ _ r))⟩;have or:=bv.i (F3.i bj);have ob:=bv.i (F3.i o1);apply aa (NC K.o (am.fr aN) hm);rintro _ h8 ⟨F8,c0,e,rfl,cr,ee,hr⟩;change e=ofE m at ee;let⟨h9,cc,bn,cb⟩:=aq F8.o [.O];simp only[b_,↓reduceIte,<-cc];apply ai (c':=[c0]) bn.o cb rfl (by simp[aw,V.s,cr]) rfl;rintro co bz ct cU;have b8:h.e<=h8.e:=(aN.c F8).e;have ar:Fr [] h8 co:=bn.z ct F8.o (VZ _);have bt:=(aN.c F8).c ar;have a6:=F8.c ar;by_cases h0:e=0;have em:ofE m=0:=oM;subst h0;have cx:=hr rfl;let⟨t3,p3,q3,a3,e3,f3⟩:=cx;cases q3;simp only[b_,↓reduceIte,Nat.reduceEqDiff,(a6.i ob).N,bz.N];apply aa (Lr ar.o (a0.fr bt) (Rp.fr (l:=m) ⟨t3,p3,rfl,a3,e3,f3⟩ ar));rintro _ cu ⟨bi,c',rfl,cq,hj⟩;have ei:uZ t.k_ i m=kC t.k_ m:=by unfold uZ;rw[if_pos hi,if_pos em]
 rw[ei];let⟨c6,bB,bh,bC⟩:=aq bi.o [.O];simp only[b_,<-bB];apply ai (c':=[c']) bh.o bC rfl (by simp[aw,V.s,cq]) rfl;rintro cn cA cj da;have ax:Fr [] cu cn:=bh.z cj bi.o (VZ _);have ak:=(a6.c bi).c ax;have aH:=bi.c ax;by_cases h1:kC t.k_ m=0;simp only[b_,↓reduceIte,Nat.reduceEqDiff,j_,h1,(ak.i oa).j,(aH.i bz).j];let⟨t9,p9,q9,a9,e9,f9⟩:=hj h1;have ff:I_ (t.k_.take i.toNat++m++t.k_.drop i.toNat):=by
  let⟨x1,x2,x3⟩:=f9;have cz:(t.k_.take i.toNat).sum+(t.k_.drop i.toNat).sum=t.k_.sum:=by rw[<-XG,WO]
  have cy:(t.k_.take i.toNat).length+(t.k_.drop i.toNat).length=t.k_.length:=by grind
  refine⟨fun y hy=>?_,?_,?_⟩;apply x1 y;simp only[Wa]at hy|-;obtain(y1|y1)|y1:=hy;grind;exact .inr y1;grind;grind;grind
 have bu:=bv.c ak;refine aa (Bm ax.o (a1.fr bu) (a3.fr (ar.c aH)) (by rw[e1,e3];exact ff.left)) ?_;rintro _ cB ⟨t4,p4,rfl,a4,e4,bg⟩;simp only[b_,↓reduceIte,Nat.reduceEqDiff,j_,((ak.c bg).i aR).j];refine aa (Bm bg.o a4 (a2.fr (bu.c bg)) (by rw[e4,e1,e3,e2];exact ff)) ?_;rintro _ cO ⟨t5,p5,rfl,a5,e5,cg⟩;simp only[b_,↓reduceIte,Nat.reduceEqDiff,j_];have ba:=(ak.c bg).c cg;apply B_ cg.o (ba.i or);rintro bw af ac aJ;simp only[b_,↓reduceIte,Nat.reduceEqDiff,Nat.reduceAdd,DF,j_,Nat.reduceSub,af.N,(ak.i oa).j,(aH.i bz).j,(ak.i aR).j,((ak.c bg).i aR).j];exact⟨(aN.c ba).z ac w b1,_,rfl,gH _,fun _=>⟨t5,p5,rfl,a5.frb ac (ba.i or) iS,by rw[e5,e4,e1,e3,e2],ff⟩⟩;simp only[b_,↓reduceIte,Nat.reduceEqDiff,h1];apply B_ ax.o (ak.i or);rintro bw af ac aJ;simp only[b_,↓reduceIte,Nat.reduceEqDiff,af.N];exact⟨(aN.c ak).z ac w b1,_,rfl,rfl,by simp[]⟩;simp only[b_,↓reduceIte,Nat.reduceEqDiff,h0];apply B_ ar.o (a6.i or);rintro bw af ac aJ;simp only[b_,↓reduceIte,Nat.reduceEqDiff,af.N];have ei:uZ t.k_ i m=e:=by unfold uZ;rw[if_pos hi,if_neg oM,ee]
 rw[ei];exact⟨bt.z ac w b1,_,rfl,rfl,by simp[h0]⟩;rw[if_neg hi]at hu;subst hu;let⟨h4,ay,ae,aT⟩:=aq F3.o [.O];let⟨h5,a7,az,a8⟩:=aq ae.o [.O];have an:=ae.c az;have ne:h3.e≠h4.e:=by rw[ay];simp[kZ]
 simp only[b_,↓reduceIte,Nat.reduceEqDiff,<-ay,<-a7];apply B_ an.o (az.i aT);rintro h6 bm Z ca;simp only[b_,↓reduceIte];apply B_ Z.o (Z.I _ _ oO a8);rintro h7 aR K ci;simp only[b_,↓reduceIte,Nat.reduceEqDiff];simp only[b_,↓reduceIte,(oM:¬((4:Int)=0))];have b4:h.e<=h4.e:=Wy b3 ae.e;have aN:=((bA.c an).z Z w b3).z K w b4;have keep:∀{b:Nat}{c:List V},e_ h3 b c->e_ h7 b c:=fun o=>K.I _ _ (by have:=o.lt F3.o;have:=ae.e;simp;omega) (Z.I _ _ (by have:=o.lt F3.o;simp;omega) (an.i o));have or:=keep (F3.i bj);apply B_ K.o or;rintro bw af ac aJ;simp only[b_,↓reduceIte,Nat.reduceEqDiff,af.N];have ei:uZ t.k_ i m=4:=by unfold uZ;rw[if_neg hi]
 rw[ei];exact⟨aN.z ac w b1,_,rfl,rfl,iS⟩
def sp(s:Int×Int):List V:=[ZZ s.1,ZZ s.2]
theorem eS(s:Int×Int):(sp s).length=2:=rfl
theorem Cr(s:Int×Int):aw (sp s)=true:=rfl
abbrev Sp(h:a_)(v:V)(L:List (Int×Int)):Prop:=q_ sp 2 h v L
def P6:List (Int×Int)->Int->Prop
 |[],_=>True
 |s::L,last=>last<s.1/\0<=s.1/\s.1<s.2/\s.2<=1073741824/\P6 L s.2
def P4(L:List (Int×Int))(i:Int):Bool:=L.any fun s=>decide (s.1<=i)&&decide (i<s.2)
theorem Sp.ix{h:a_}{v:V}{L:List (Int×Int)}(a:Sp h v L)(i:Nat)(K:(i:Int)<L.length):
 ∃b o s,aP (.c 2) [v,ZZ i]=some (.u b o)/\ab h b o=some (ZZ s.1)/\ab h b (o+1)=some (ZZ s.2)/\aj h b o 2=some [ZZ s.1,ZZ s.2]/\L[i]? =some s:=by
 let⟨b,o,s,e,g,g2,Z⟩:=YX eS a .i64 i oM K;exact⟨b,o,s,e,by simpa[sp]using g 0 oM,by simpa[sp]using g 1 oM,g2,by simpa using Z⟩
def X2(h:a_)(v:V)(L:List (Int×Int)):Prop:=(v=.r/\L=[])\/∃b,v=.y b 0 L.length L.length/\e_ h b (L.flatMap sp)/\0<L.length
theorem X2.slc{h:a_}{v:V}{L:List (Int×Int)}(a:X2 h v L):Sp h v L:=by obtain⟨rfl,rfl⟩|⟨b,rfl,o,_⟩:=a;exact ZI;exact Xy o (aC eS L)
theorem X2.fr{h:a_}{v:V}{L:List (Int×Int)}(a:X2 h v L)(f:Fr [] h h'):X2 h' v L:=by obtain x|⟨b,e,o,p⟩:=a;exact .inl x;exact .inr ⟨b,e,f.i o,p⟩
theorem X2.frb{h:a_}{v:V}{L:List (Int×Int)}{b:Nat}{c:List V}(a:X2 h v L)(f:Fr [b] h h')(o:e_ h b c)(hc:∀L:List (Int×Int),0<L.length->c≠L.flatMap sp):X2 h' v L:=by obtain x|⟨q,e,Z,p⟩:=a;exact .inl x;refine .inr ⟨q,e,f.I _ _ ?_ Z,p⟩;simp;rintro rfl;exact hc L p (o.uniq Z)
theorem X2.U{h:a_}{v:V}{L:List (Int×Int)}(a:X2 h v L):v.U=true:=by obtain⟨rfl,_⟩|⟨b,rfl,_⟩:=a<;>rfl
theorem X2.noint{h:a_}{v:V}{L:List (Int×Int)}(a:X2 h v L):∀k n,v≠.A k n:=by obtain⟨rfl,_⟩|⟨b,rfl,_⟩:=a<;>simp
theorem Eo{c:List V}(hc:∀x∈c,∀k n,x≠.A k n):∀L:List (Int×Int),0<L.length->c≠L.flatMap Lay.sp:=by
 intro L p e;cases L with
 |nil=>simp at p
 |cons s L=>exact hc (ZZ s.1) (by rw[e];simp[Lay.sp]) _ _ rfl
theorem Sp.frb{h:a_}{v:V}{L:List (Int×Int)}{b:Nat}{c c':List V}(a:Sp h v L)(f:Fr [b] h h')(o:e_ h b c)(o':e_ h' b c')(hc:∀x∈c,∀k n,x≠.A k n)(hl:c'.length=c.length):Sp h' v L:=by
 let⟨e1,e2⟩:=a;have K:∀(bb Z:Nat),(∃d,e_ h bb d/\Z+L.length*2<=d.length/\L.flatMap sp=(d.drop Z).take (L.length*2))->∃d,e_ h' bb d/\Z+L.length*2<=d.length/\L.flatMap sp=(d.drop Z).take (L.length*2):=by
  rintro bb Z ⟨d,od,h1,h2⟩;by_cases e:bb=b;subst e;have:=od.uniq o;subst this;have hL:L=[]:=by
   cases L with
   |nil=>rfl
   |cons s L=>
    exfalso;have hm:ZZ s.1∈d:=by
     have:ZZ s.1∈(s::L).flatMap sp:=by simp[sp]
     rw[h2]at this;exact WR (WX this)
    exact hc _ hm _ _ rfl
  subst hL;exact⟨c',o',by simpa[hl]using h1,iS⟩;exact⟨d,f.I _ _ (eV e) od,h1,h2⟩
 refine⟨e1,?_⟩;cases v with
 |y bb Z len cap=>let⟨x1,x2,x3⟩:=e2;exact⟨x1,x2,K bb Z x3⟩
 |G bb Z len cap=>let⟨x1,x2,x3⟩:=e2;exact⟨x1,x2,K bb Z x3⟩
 |_=>exact e2
theorem mT{h:a_}{v:V}{L:List (Int×Int)}(w:WF h)(a:Sp h v L)(ok:P6 L (-1))(hn:L.length<=4096):
 ao go 244 [v] h fun u h'=>u=ZZ 0/\Fr [] h h':=by
 have hl:¬(4096:Int)<L.length:=oM
 refine ah ?_;simp[b_,a.t_,hl];refine aA (fun k env hh=>Fr [] h hh/\∃(i:Nat)(Z:Int),env.c_ 11=some (ZZ i)/\env.c_ 3=some (ZZ Z)/\env.c_ 9=some v/\env.c_ 10=some (ZZ L.length)/\
  i<=L.length/\P6 (L.drop i) Z/\k=L.length-i) L.length oM ?_ ?_
 ·exact⟨Wl w,0,-1,iS,iS,iS,iS,oM,ok,rfl⟩
 ·rintro k env hh ⟨F,i,Z,g11,g3,g9,an,hi,ok,rfl⟩;by_cases ac:(i:Int)<L.length
  ·let⟨b,o,s,e1,e2,e3,e4,e5⟩:=Sp.ix (a.fr F) i ac;rw[aL e5]at ok;let⟨k1,k2,k3,k4,k5⟩:=ok;let⟨h1,ae,K,ar⟩:=aq F.o [ZZ 0,ZZ 0];simp only[b_,seval,g11,g9,an,ac,e1,e4,<-ae];refine B_ K.o ar ?_;rintro h2 ak af ax;simp(disch:=omega) only[b_,seval,ag,g11,g3,ak.j,(oM:¬s.1<0),(oM:¬s.2<=s.1),(oM:¬1073741824<s.2),(oM:¬s.1<=Z)];refine s_ ⟨L.length-(i+1),oM,F.c (K.z af F.o (VZ _)),i+1,s.2,iS,iS,iX,iX,oM,k5,rfl⟩
   done
  ·simp[b_,g11,an,ac];exact F
theorem Lt{h:a_}{s:Int×Int}{i:Int}{bi:Nat}(w:WF h)(oi:e_ h bi [ZZ i]):
 ao go 246 [.B [ZZ s.1,ZZ s.2],.u bi 0] h fun u h'=>u=.h (decide (s.1<=i)&&decide (i<s.2))/\Fr [] h h':=by
 let⟨h1,K,Z,ac⟩:=aq w [ZZ s.1,ZZ s.2];by_cases c:s.1<=i;refine ah ?_;simp only[b_,seval,<-K,ac.j,(Z.i oi).j,c];exact⟨iS,Z⟩;refine ah ?_;simp only[b_,seval,<-K,ac.j,(Z.i oi).j,c];exact⟨iS,Z⟩
theorem HW{L:List (Int×Int)}{i:Nat}{s:Int×Int}(e:L[i]? =some s)(x:Int):P4 (L.drop i) x=((decide (s.1<=x)&&decide (x<s.2))||P4 (L.drop (i+1)) x):=by rw[aL e];rfl
theorem FU{h:a_}{v:V}{L:List (Int×Int)}{x:Int}{K:Nat}(w:WF h)(a:Sp h v L)(oi:e_ h K [ZZ x])(hn:L.length<=4096):
 ao go 282 [v,.E (.func 246) [] [.u K 0]] h fun u h'=>∃r:Int,u=ZZ r/\(decide (0<=r)=P4 L x)/\Fr [] h h':=by
 refine ah ?_;simp[b_,a.t_];refine aA (fun k env hh=>Fr [] h hh/\∃(i:Nat),env.c_ 8=some (ZZ i)/\env.c_ 7=some (ZZ L.length)/\env.c_ 0=some v/\env.c_ 1=some (.E (.func 246) [] [.u K 0])/\
  i<=L.length/\P4 (L.drop i) x=P4 L x/\k=L.length-i) L.length oM ?_ ?_
 ·exact⟨Wl w,0,iS,iS,iS,iS,oM,rfl,rfl⟩
 ·rintro k env hh ⟨F,i,g8,g7,g0,g1,hi,e,rfl⟩;by_cases Z:(i:Int)<L.length
  ·let⟨b,o,s,e1,e2,e3,e4,e5⟩:=Sp.ix (a.fr F) i Z;rw[HW e5]at e;simp[b_,g8,g7,g0,g1,Z,e1,e4];refine aa (Lt F.o (F.i oi)) ?_;rintro _ h1 ⟨rfl,F1⟩;by_cases c:(decide (s.1<=x)&&decide (x<s.2))=true
   ·simp only[b_,seval,c];rw[c]at e;exact⟨i,rfl,by rw[<-e];simp,F.c F1⟩
   ·rw[Bool.not_eq_true]at c;simp(disch:=omega)[b_,ag,c,g8];rw[c]at e;refine s_ ⟨L.length-(i+1),oM,F.c F1,i+1,iS,iX,iX,iX,oM,by simpa using e,rfl⟩
    done
  ·simp only[b_,seval,g8,g7,Z];rw[Wo oM]at e;exact⟨-1,rfl,by rw[<-e];rfl,F⟩
theorem NP{h:a_}{v:V}{L:List (Int×Int)}{x:Int}(w:WF h)(a:Sp h v L)(ok:P6 L (-1))(hn:L.length<=4096):
 ao go 184 [v,ZZ x] h fun u h'=>u=.h (P4 L x)/\Fr [] h h':=by
 let⟨h1,ac,Z,ae⟩:=aq w [ZZ x];refine ah ?_;simp[b_,<-ac];refine aa (mT Z.o (a.fr Z) ok hn) ?_;rintro _ h2 ⟨rfl,F2⟩;simp[b_];have K:=Z.c F2;refine aa (?_:ao go 245 _ _ (fun u h'=>u=.h (P4 L x)/\Fr [] h2 h')) ?_;refine ah ?_;simp[b_];refine aa (FU F2.o (a.fr K) (F2.i ae) hn) ?_;rintro _ h3 ⟨r,rfl,e,F3⟩;simp only[b_,seval];exact⟨by rw[e],F3⟩;rintro _ h3 ⟨rfl,F3⟩;simp[b_];exact K.c F3
def pY(L:List (Int×Int))(a b:Int):List (Int×Int):=if b<=a then L else match L.getLast? with
 |some s=>if a<=s.2 then L.dropLast++[(s.1,max s.2 b)]else L++[(a,b)]
 |none=>[(a,b)]
theorem rW(L M:List (Int×Int))(x:Int):P4 (L++M) x=(P4 L x||P4 M x):=by simp[P4]
theorem jK(s:Int×Int)(M:List (Int×Int))(x:Int):P4 (s::M) x=((decide (s.1<=x)&&decide (x<s.2))||P4 M x):=rfl
theorem pG(x:Int):P4 [] x=false:=rfl
theorem P6.h:∀{L:List (Int×Int)}{b:Int},P6 L b→∀s∈L,b<s.1∧0≤s.1∧s.1<s.2∧s.2≤1073741824
 |t::L,b,⟨h1,h2,h3,h4,h5⟩,s,hs=>by obtain rfl|hs:=List.mem_cons.1 hs;omega;have:=P6.h h5 s hs;omega
theorem P6.b{L:List (Int×Int)}{b x:Int}(ok:P6 L b)(h:x<=b):P4 L x=false:=by simp only[P4,Zo,VY,decide_eq_true_eq];intro s Z;have:=ok.h s Z;omega
theorem P6.f:∀{L M:List (Int×Int)}{b c:Int},P6 L b→P6 M c→(∀s∈L,s.2≤c)→b≤c→P6 (L++M) b
 |[],M,b,c,_,hm,_,h=>by
  cases M with
  |nil=>trivial
  |cons s M=>let⟨a1,a2⟩:=hm;exact⟨oM,a2⟩
 |s::L,M,b,c,⟨h1,h2,h3,h4,h5⟩,hm,hb,h=>⟨h1,h2,h3,h4,P6.f h5 hm (fun t ht=>hb t iX) (hb s iS)⟩
theorem P6.e:∀{L M:List (Int×Int)}{b:Int},P6 (L++M) b->P6 L b
 |[],_,_,_=>trivial
 |s::L,M,b,⟨h1,h2,h3,h4,h5⟩=>⟨h1,h2,h3,h4,P6.e h5⟩
theorem P6.c:∀{L:List (Int×Int)}{b:Int}(i:Nat),P6 L b->∃c,P6 (L.drop i) c
 |[],b,i,h=>by simp;exact⟨b,trivial⟩
 |s::L,b,0,h=>⟨b,h⟩
 |s::L,b,i+1,⟨_,_,_,_,h⟩=>P6.c i h
theorem P6.d:∀{L:List (Int×Int)}{s:Int×Int}{b:Int},P6 (L++[s]) b→(∀t∈L,t.2<s.1)∧b<s.1∧0≤s.1∧s.1<s.2∧s.2≤1073741824
 |[],s,b,⟨h1,h2,h3,h4,_⟩=>⟨iS,h1,h2,h3,h4⟩
 |t::L,s,b,⟨h1,h2,h3,h4,h5⟩=>by let⟨a,c,d⟩:=P6.d h5;exact⟨by simp only[List.mem_cons,forall_eq_or_imp];exact⟨c,a⟩,oM,d⟩
theorem P6.a:∀{L:List (Int×Int)}{b:Int},P6 L b→∀m,(∀s∈L,s.2≤m)→b≤m+0→2*(L.length:Int)≤m-b
 |[],b,_,m,_,h=>by simp;omega
 |s::L,b,⟨h1,h2,h3,h4,h5⟩,m,hm,h=>by have:=P6.a h5 m (fun t ht=>hm t iX) (by have:=hm s iS;omega);simp only[List.length_cons];omega
theorem jP{L:List (Int×Int)}{a b:Int}(ok:P6 L (-1))(Z:a<b->∀s∈L,s.2<=a)(h0:0<=a)(hb:b<=1073741824):
 P6 (pY L a b) (-1)/\(∀x,P4 (pY L a b) x=(P4 L x||(decide (a<=x)&&decide (x<b))))/\(∀m,(∀s∈L,s.2<=m)->(a<b->b<=m)->∀s∈pY L a b,s.2<=m):=by
 unfold pY;by_cases h:b<=a;grind;rw[if_neg h];have Z:=Z oM;obtain rfl|⟨L',s,rfl⟩:=List.eq_nil_or_concat L;simp only[List.getLast?_nil];refine⟨⟨by simp;omega,by simp;omega,by simp;omega,hb,trivial⟩,fun x=>by simp[P4],fun m _ hm s K=>?_⟩;simp at K;subst K;exact hm oM;simp only[List.concat_eq_append]at ok Z|-;simp only[Zx,Zj,Option.some_or,List.dropLast_concat];let⟨k1,k2,k3,k4,k5⟩:=ok.d;have K:=Z s iS;by_cases hc:a<=s.2;rw[if_pos hc];have e:max s.2 b=b:=oM;rw[e];refine⟨P6.f (c:=s.1-1) ok.e ⟨by simp;omega,k3,by simp;omega,hb,trivial⟩ (fun t ht=>by have:=k1 t ht;omega) oM,fun x=>?_,fun m hm hbm t ht=>?_⟩;simp[rW,jK,pG,Bool.or_assoc];congr 1;rw[XV];simp;omega;grind;rw[if_neg hc];refine⟨P6.f (c:=a-1) ok ⟨by simp;omega,h0,by simp;omega,hb,trivial⟩ (fun t ht=>?_) oM,fun x=>?_,fun m hm hbm t ht=>?_⟩;grind;simp only[rW,jK,pG,ZR];grind
theorem uQ{h:a_}{B:Nat}{v:V}{L:List (Int×Int)}{a b:Int}(w:WF h)(g:F_ sp 2 h B v L)(hB:B<=h.e)(hn:(L.length:Int)<=1073741824):
 ao go 278 [v,ZZ a,ZZ b] h fun u h'=>F_ sp 2 h' B u (pY L a b)/\Fr (vb v) h h':=by
 have s:=g.recs eS oM;by_cases h1:b<=a;refine ah ?_;simp[b_,s.t_,h1];unfold pY;rw[if_pos h1];exact⟨g,Wl w⟩;obtain rfl|⟨L',t,rfl⟩:=List.eq_nil_or_concat L;obtain⟨ac,K⟩:∃ac,ac=h_ h (sp (a,b)):=⟨_,rfl⟩;have Z:Fr [] h ac:=K▸WA w _;have ae:e_ ac h.e (sp (a,b)):=K▸Xc w _;have af:h_ h [ZZ a,ZZ b]=ac:=K.symm;have hz:aP .d [v]=some (ZZ 0):=s.t_;refine ah ?_;simp[b_,hz,h1,af];refine YA (x:=(a,b)) Z.o (g.fr Z) eS (Cr _) oM ae (Wy hB Z.e) iS ?_;intro v' h' g' u;simp[b_];unfold pY;rw[if_neg h1];exact⟨g',Z.trans u w iS (fun x hx=>.inl hx)⟩;simp only[List.concat_eq_append]at g s hn|-;have ak:((L'++[t]).length:Int)=L'.length+1:=by simp
 let⟨bb,oo,x,e1,e2,e3,e4,e5⟩:=Sp.ix s L'.length oM;have hx:x=t:=by simpa using e5.symm
 subst hx;have pos:(0:Int)<L'.length+1:=oM;have es:(L'.length:Int)+1-1=L'.length:=oM;by_cases h2:a<=x.2;obtain⟨rfl,gg⟩|⟨b0,n0,rfl,ar,aH,az,og⟩:=g;have:=congrArg List.length gg;rw[aC eS]at this;simp at this;rw[aC eS]at ar;have e0:n0=L'.length+1:=by simp at ar;omega
 subst e0;have an:=lK 2 b0 0 (L'.length+1) 2 .i64 L'.length oM oM;rw[e1]at an;simp only[Wg,V.u.injEq,pi]at an;obtain⟨rfl,rfl⟩:=an;simp at e1 e3;refine ah ?_;simp(disch:=omega)[b_,ag,h1,e1,e3,h2];have ay:(L'++[x]).flatMap sp=L'.flatMap sp++[ZZ x.1,ZZ x.2]:=by simp[sp]
 rw[ay]at og;have hu:bG (L'.flatMap sp++[ZZ x.1,ZZ x.2]) (L'.length*2+1) [ZZ (max x.2 b)]=some (L'.flatMap sp++[ZZ x.1,ZZ (max x.2 b)]):=by have ax:(L'.flatMap sp).length=L'.length*2:=aC eS L';rw[cD _ _ _ iX];congr 1;rw[Zw,Wj oM,Wo iX];rw[ax,(oM:L'.length*2+1-L'.length*2=1)];simp
 refine ai (c':=_) (v:=ZZ (max x.2 b)) (o:=L'.length*2+1) w og rfl rfl hu ?_;intro h' o' F' n';simp[b_];unfold pY;rw[if_neg h1];simp[if_pos h2];refine⟨.inr ⟨bb,L'.length+1,rfl,by rw[aC eS];simp,oM,az,?_⟩,F'⟩;rw[XS];simpa[sp]using o';obtain⟨ac,K⟩:∃ac,ac=h_ h (sp (a,b)):=⟨_,rfl⟩;have Z:Fr [] h ac:=K▸WA w _;have ae:e_ ac h.e (sp (a,b)):=K▸Xc w _;have af:h_ h [ZZ a,ZZ b]=ac:=K.symm;refine ah ?_;simp(disch:=omega)[b_,ag,s.t_,h1,ak,pos,es,e1,e3,h2,af];refine YA (x:=(a,b)) Z.o (g.fr Z) eS (Cr _) oM ae (Wy hB Z.e) oO ?_;intro v' h' g' u;simp[b_];unfold pY;rw[if_neg h1];simp only[Zx,Zj,Option.some_or,if_neg h2];exact⟨g',Z.trans u w iS (fun x hx=>.inl hx)⟩
theorem Lv{h:a_}{B:Nat}{v:V}{L:List (Int×Int)}(g:F_ sp 2 h B v L):ao go 303 [v] h fun u h'=>X2 h u L/\u.U=true/\h'=h:=by
 have s:=g.recs eS oM;obtain⟨rfl,gg⟩|⟨b0,n0,rfl,Z,K,ae,og⟩:=g;have e:aP (.s none 2 false true true) [.r,ZZ (L.length:Int),ZZ (L.length:Int)]=some .r:=by
  have:L=[]:=by have:=congrArg List.length gg;rw[aC eS,XM]at this;exact Wu.1 oM
  subst this;rfl
 have hz:aP .d [.r]=some (ZZ (L.length:Int)):=s.t_;refine ah ?_;simp only[xf,xe,xi,fT,qM,FB,FA,Ek,mU,mR,qA,qz,nD,iI,wD,cW,fP,cC,bO,cL,iw,fu,Xr,dJ,jS,jL,qD,hJ,wY,hz,e,seval];exact⟨.inl ⟨rfl,by have:=congrArg List.length gg;rw[aC eS,XM]at this;exact Wu.1 oM⟩,rfl,trivial⟩;rw[aC eS]at Z;have e0:n0=L.length:=oM;subst e0;have ac:aZ L.length L.length false true true [ZZ (L.length:Int),ZZ (L.length:Int)]=some (0,L.length,some L.length):=by simp[aZ,bU .i64 (L.length:Int) L.length oM oM]
 have e:aP (.s none 2 false true true) [.G b0 0 L.length 2,ZZ (L.length:Int),ZZ (L.length:Int)]=some (.y b0 0 L.length L.length):=by have hq:(Nat.beq 2 2&&Nat.blt 0 2)=true:=rfl;simp only[aP,eJ,hq,cond_true,ac,WN,fC (oM:L.length≠0),cond_false,Zq,YK,Yp]
 refine ah ?_;simp[b_,e];exact⟨.inr ⟨b0,rfl,og,K⟩,rfl⟩
theorem yi{h:a_}{B:Nat}{v:V}{L:List (Int×Int)}(g:F_ sp 2 h B v L)(Z:L.length<=4096):ao go 279 [v] h fun u h'=>∃z,u=.D [z,ZZ 0]/\X2 h z L/\z.U=true/\h'=h:=by have s:=g.recs eS oM;refine ah ?_;simp[b_,s.t_,(oM:¬(4096:Int)<L.length)];refine aa (Lv g) ?_;rintro z _ ⟨a,b,rfl⟩;simp only[b_,seval];exact⟨z,rfl,a,b⟩
theorem yh{h:a_}{s:Int×Int}{a:Int}(w:WF h):ao go 299 [.B [ZZ s.1,ZZ s.2],ZZ a] h fun u h'=>u=ZZ (if a<s.1 then s.1 else s.2)/\Fr [] h h':=by let⟨h1,ac,K,Z⟩:=aq w [ZZ s.1,ZZ s.2];by_cases c:a<s.1;refine ah ?_;simp[b_,<-ac,Z.j,c];exact K;refine ah ?_;simp[b_,<-ac,Z.j,c];exact K
theorem K3{h:a_}{u v:V}{A B:List (Int×Int)}(w:WF h)(a:Sp h u A)(b:Sp h v B)(ac:P6 A (-1))(Z:P6 B (-1))(ha:A.length<=4096)(hb:B.length<=4096):
 ao go 298 [u,v] h fun u h'=>u=ZZ 0/\Fr [] h h':=by
 refine ah ?_;simp[b_];refine aa (mT w a ac ha) ?_;rintro _ h1 ⟨rfl,K⟩;simp[b_];apply aa (mT K.o (b.fr K) Z hb);rintro _ h2 ⟨rfl,F2⟩;simp[b_];exact K.c F2
def S_(A:List (Int×Int))(a:Int):Nat:=(A.map fun s=>(if a<s.1 then 1 else 0)+(if a<s.2 then 1 else 0)).sum
theorem li(s:Int×Int)(A:List (Int×Int))(a:Int):S_ (s::A) a=(if a<s.1 then 1 else 0)+(if a<s.2 then 1 else 0)+S_ A a:=by simp[S_]
theorem oR:∀(A:List (Int×Int)){a e:Int},a≤e→S_ A e≤S_ A a
 |[],_,_,_=>Nat.le_refl _
 |s::A,a,e,h=>by have:=oR A h;rw[li,li];by_cases c1:e<s.1<;>by_cases c2:e<s.2<;>by_cases c3:a<s.1<;>by_cases c4:a<s.2<;>simp[c1,c2,c3,c4]<;>omega
theorem uv:∀(A:List (Int×Int)){a e:Int}{s:Int×Int},a<e→s∈A→(s.1=e∨s.2=e)→S_ A e<S_ A a
 |t::A,a,e,s,h,hs,hse=>by rw[li,li];have hle:=oR A (Int.le_of_lt h);obtain rfl|hs:=List.mem_cons.1 hs;grind;have:=uv A h hs hse;by_cases c1:e<t.1<;>by_cases c2:e<t.2<;>by_cases c3:a<t.1<;>by_cases c4:a<t.2<;>simp[c1,c2,c3,c4]<;>omega
theorem C7(A:List (Int×Int))(a:Int):S_ A a<=2*A.length:=by
 induction A with
 |nil=>simp[S_]
 |cons s A ih=>rw[li];simp;by_cases c3:a<s.1<;>by_cases c4:a<s.2<;>simp[c3,c4]<;>omega
def u7(D:List (Int×Int))(a:Int):Bool:=match D with
 |[]=>false
 |s::_=>decide (s.1<=a)
def nC(D:List (Int×Int))(a:Int):Int:=match D with
 |[]=>1073741824
 |s::_=>if a<s.1 then s.1 else s.2
theorem seg{D:List (Int×Int)}{Z a x:Int}(ok:P6 D Z)(hx:a<=x)(hD:∀s D',D=s::D'->a<s.2)(K:x<nC D a):P4 D x=u7 D a:=by
 cases D with
 |nil=>rfl
 |cons s D=>let⟨h1,h2,h3,h4,h5⟩:=ok;have:=hD s D rfl;simp[nC]at K;rw[jK,P6.b h5 (by split at K<;>omega),ZR];simp[u7];rw[XV];simp;split at K<;>omega
theorem mJ{A:List (Int×Int)}{i:Nat}{a x:Int}(h:∀s∈A.take i,s.2<=a)(K:a<=x):P4 A x=P4 (A.drop i) x:=by
 conv=>lhs;rw[<-WO i A]
 rw[rW];have:P4 (A.take i) x=false:=by simp only[P4,Zo,VY,decide_eq_true_eq];intro s Z;have:=h s Z;omega
 rw[this,Yr]
theorem Gr{A:List (Int×Int)}{i:Nat}{s:Int×Int}{a:Int}(h:∀s∈A.take i,s.2<=a)(e:A[i]? =some s)(Z:s.2<=a):∀s∈A.take (i+1),s.2<=a:=by intro t ht;rw[Wn,e]at ht;simp at ht;obtain ht|rfl:=ht;exact h t ht;exact Z
theorem Ct{h:a_}{v:V}{A:List (Int×Int)}{env:T V}{at':Int}{i:Nat}{Q:Ex->T V->a_->Prop}{c:IC}(sv Z sz:Nat)(hA:A.length<=4096)(K:Z≠10/\sz≠10/\sv≠Z/\sv≠sz/\Z≠sz)(id:Nat)
 (a:Sp h v A) (gv:env.c_ sv=some v) (ak:env.c_ 10=some (ZZ at')) (gx:env.c_ Z=some (ZZ i)) (hi:i<=A.length) (hb:∀s∈A.take i,s.2<=at')
 (body:∀(env:T V)(i:Nat)(Q:Ex->T V->a_->Prop),env.c_ sv=some v->env.c_ 10=some (ZZ at')->env.c_ Z=some (ZZ i)->i<=A.length->
  (∀env',env'.c_ Z=some (ZZ ((i:Int)+1))->(∀s,s≠Z->s≠sz->env'.c_ s=env.c_ s)->(∃s,A[i]? =some s/\s.2<=at')->Q .a env' h)->
  (∀env',(∀s,s≠sz->env'.c_ s=env.c_ s)->(∀s,A[i]? =some s->at'<s.2)->Q (.c id) env' h)->W go c env h Q)
 (k:∀env' (j:Nat),env'.c_ Z=some (ZZ j)->(∀s,s≠Z->s≠sz->env'.c_ s=env.c_ s)->j<=A.length->(∀s∈A.take j,s.2<=at')->(∀s,A[j]? =some s->at'<s.2)->Q (.c id) env' h):
 W go (.o c) env h Q:=by
 refine aA (fun k env' hh=>hh=h/\(∀s,s≠Z->s≠sz->env'.c_ s=env.c_ s)/\∃j:Nat,env'.c_ Z=some (ZZ j)/\j<=A.length/\(∀s∈A.take j,s.2<=at')/\k=A.length-j) (A.length-i) oM ?_ ?_;grind;rintro k' ae hh ⟨rfl,same,j,gj,hj,af,rfl⟩;refine body ae j _ ((same sv K.2.2.1 K.2.2.2.1).trans gv) ((same 10 (XK K.1) (XK K.2.1)).trans ak) gj hj ?_ ?_;rintro ac e1 e2 ⟨s,es,hs⟩;have an:j<A.length:=by grind
 exact s_ ⟨A.length-(j+1),oM,rfl,fun s a1 a2=>(e2 s a1 a2).trans (same s a1 a2),j+1,by simpa using e1,oM,Gr af es hs,rfl⟩;intro ac e2 hs;exact(kN _ _ _ _).2 (k ac j ((e2 Z K.2.2.2.2).trans gj) (fun s a1 a2=>(e2 s a2).trans (same s a1 a2)) hj af hs)
structure Keep(kf:V)(keep:Bool->Bool->Bool):Prop where
 d:∃g,kf=.E (.func g) [] []/\g<1099511627776/\∀h a b,ao go g [.h a,.h b] h fun u h'=>u=.h (keep a b)/\h'=h
 c:keep false false=false
theorem wj{h:a_}{u v kf:V}{A B:List (Int×Int)}{keep:Bool->Bool->Bool}(w:WF h)(a:Sp h u A)(b:Sp h v B)(bh:P6 A (-1))(ba:P6 B (-1))(ha:A.length<=4096)(hb:B.length<=4096)
 (hk:Keep kf keep) (m:Int) (hm:m<=8000) (cl:∀s∈A,s.2<=m) (bT:∀s∈B,s.2<=m):
 ao go 269 [u,v,kf] h fun z h'=>Fr [] h h'/\∃y L,z=.D [y,ZZ 0]/\y.U=true/\X2 h' y L/\P6 L (-1)/\(∀x,P4 L x=keep (P4 A x) (P4 B x))/\∀s∈L,s.2<=max m 0:=by
 refine ah ?_;simp only[b_,seval];refine Jb ?_;simp only[b_,seval];refine aa (K3 w a b bh ba ha hb) ?_;rintro _ h1 ⟨rfl,F1⟩;simp only[b_,seval];obtain⟨g,rfl,bu,bn⟩:=hk.d;have below:∀(O:List (Int×Int)){c:Int},(∀s∈O,s.2<=c)->∀x,c<=x->P4 O x=false:=by intro O c hO x hx;simp only[P4,Zo,VY,decide_eq_true_eq];intro s Z;have:=hO s Z;omega
 refine aA (fun k env hh=>∃(i j:Nat)(at':Int)(vo:V)(O:List (Int×Int)),Fr [] h hh/\env.c_ 0=some u/\env.c_ 1=some v/\env.c_ 2=some (.E (.func g) [] [])/\env.c_ 9=some vo/\
  env.c_ 10=some (ZZ at')/\env.c_ 11=some (ZZ i)/\env.c_ 12=some (ZZ j)/\i<=A.length/\j<=B.length/\0<=at'/\at'<=max m 0/\(∀s∈A.take i,s.2<=at')/\(∀s∈B.take j,s.2<=at')/\
  F_ sp 2 hh h.e vo O/\P6 O (-1)/\(∀s∈O,s.2<=at')/\(∀x,x<at'->P4 O x=keep (P4 A x) (P4 B x))/\k=S_ A at'+S_ B at') (S_ A 0+S_ B 0) (by have:=C7 A 0;have:=C7 B 0;omega) ?_ ?_
 refine⟨0,0,0,.r,[],F1,iS,iS,iS,iS,iS,iS,iS,oM,oM,oM,oM,iS,iS,Zs,trivial,iS,?_,rfl⟩;intro x hx;rw[bh.b oM,ba.b oM,hk.c];rfl;rintro k env hh ⟨i,j,at',vo,O,F,g0,g1,g2,g9,aH,g11,g12,hi,hj,at0,atm,hbi,hbj,gO,okO,mO,sO,rfl⟩;simp only[b_];refine Ct 0 11 34 ha oM 2 (a.fr F) g0 aH g11 hi hbi ?_ ?_;intro env i Q g0 aH g11 hi hn hx;by_cases ay:(i:Int)<A.length;let⟨bb,oo,s,e1,e2,e3,e4,e5⟩:=Sp.ix (a.fr F) i ay;by_cases Z:s.2<=at';simp(disch:=omega)[b_,ag,g0,aH,g11,(a.fr F).t_,ay,e1,e3,Z];exact hn _ iS (fun s h1 h2=>by simp[h1,h2]) ⟨s,e5,Z⟩;simp[b_,g0,aH,g11,(a.fr F).t_,ay,e1,e3,Z];exact hx _ (fun s h1=>by simp[h1]) (fun t ht=>by rw[e5]at ht;cases ht;omega);simp[b_,g0,g11,(a.fr F).t_,ay];exact hx _ (fun s h1=>by simp[h1]) (fun t ht=>by rw[Xa oM]at ht;cases ht);intro bw i1 a8 ac a1 aR bE;have bz:=(ac 0 oM oM).trans g0;have bt:=(ac 1 oM oM).trans g1;have bv:=(ac 2 oM oM).trans g2;have bC:=(ac 9 oM oM).trans g9;have a4:=(ac 10 oM oM).trans aH;have a9:=(ac 12 oM oM).trans g12;simp only[b_,seval];refine Ct 1 12 49 hb oM 4 (b.fr F) bt a4 a9 hj hbj ?_ ?_;intro env i Q g0 aH g11 hi hn hx;by_cases ay:(i:Int)<B.length;let⟨bb,oo,s,e1,e2,e3,e4,e5⟩:=Sp.ix (b.fr F) i ay;by_cases Z:s.2<=at';simp(disch:=omega)[b_,ag,g0,aH,g11,(b.fr F).t_,ay,e1,e3,Z];exact hn _ iS (fun s h1 h2=>by simp[h1,h2]) ⟨s,e5,Z⟩;simp[b_,g0,aH,g11,(b.fr F).t_,ay,e1,e3,Z];exact hx _ (fun s h1=>by simp[h1]) (fun t ht=>by rw[e5]at ht;cases ht;omega);simp[b_,g0,g11,(b.fr F).t_,ay];exact hx _ (fun s h1=>by simp[h1]) (fun t ht=>by rw[Xa oM]at ht;cases ht);intro co j1 an ae a2 aN bf;have n0:=(ae 0 oM oM).trans bz;have n1:=(ae 1 oM oM).trans bt;have n2:=(ae 2 oM oM).trans bv;have n9:=(ae 9 oM oM).trans bC;have a3:=(ae 10 oM oM).trans a4;have a0:=(ae 11 oM oM).trans a8;clear ac ae bz bt bv bC a4 a8 a9 g0 g1 g2 g9 aH g11 g12 hbi hbj hi hj env bw;let⟨ca,bm⟩:=bh.c i1;let⟨cb,okB⟩:=ba.c j1;have ak:∀x,at'<=x->x<nC (A.drop i1) at'->P4 A x=u7 (A.drop i1) at':=fun x h1 h2=>by rw[mJ aR h1,seg bm h1 (fun s D' e=>bE s (by rw[<-List.head?_drop,e];rfl)) h2]
 have K:∀x,at'<=x->x<nC (B.drop j1) at'->P4 B x=u7 (B.drop j1) at':=fun x h1 h2=>by rw[mJ aN h1,seg okB h1 (fun s D' e=>bf s (by rw[<-List.head?_drop,e];rfl)) h2]
 by_cases cA:(i1:Int)<A.length;let⟨bA,oA,s,cg,cc,cr,cj,a5⟩:=Sp.ix (a.fr F) i1 cA;have eD:=aL a5;rw[eD]at ak bm;simp[nC,u7]at ak;have sm:=cl s (Wc a5);have s2:=bE s a5;let⟨q1,q2,q3,q4,_⟩:=bm;simp only[b_,seval,n0,a3,a0,(a.fr F).t_,cA,cg,cc,cj];refine aa (yh F.o) ?_;rintro _ h3 ⟨rfl,F3⟩;have FH:=F.c F3;obtain⟨eA,ch⟩:∃eA,eA=if at'<s.1 then s.1 else s.2:=⟨_,rfl⟩;rw[<-ch]at ak|-;have cq:at'<eA/\eA<=m/\eA<=1073741824/\(s.1=eA\/s.2=eA):=oM;by_cases cB:(j1:Int)<B.length;let⟨bB,oB,t,bi,bk,cn,bg,az⟩:=Sp.ix (b.fr FH) j1 cB;have eE:=aL az;rw[eE]at K okB;simp[nC,u7]at K;have tm:=bT t (Wc az);have t2:=bf t az;let⟨r1,r2,r3,r4,_⟩:=okB;simp only[b_,seval,n1,a3,an,(b.fr FH).t_,cB,bi,bk,bg];refine aa (yh F3.o) ?_;rintro _ h4 ⟨rfl,F4⟩;have FH:=FH.c F4;have ar:=gO.fr (F3.c F4);obtain⟨eB,bj⟩:∃eB,eB=if at'<t.1 then t.1 else t.2:=⟨_,rfl⟩;rw[<-bj]at K|-;have ci:at'<eB/\eB<=m/\eB<=1073741824/\(t.1=eB\/t.2=eB):=oM;simp only[b_,seval,n0,n2,a0,(a.fr FH).t_,(oM:¬(i1:Int)=A.length)];obtain⟨e,he⟩:∃e,e=min (min 1073741824 eA) eB:=⟨_,rfl⟩;rw[<-he];have hA:∀x,at'<=x->x<e->P4 A x=decide (s.1<=at'):=fun x h1 h2=>ak x h1 oM;have hB:∀x,at'<=x->x<e->P4 B x=decide (t.1<=at'):=fun x h1 h2=>K x h1 oM;have aJ:e<=max m 0:=oM;have af:S_ A e+S_ B e<S_ A at'+S_ B at':=by by_cases c:eA<=eB;have:=uv A (a:=at') (e:=e) oM (Wc a5) oM;have:=oR B (a:=at') (e:=e) oM;omega;have:=uv B (a:=at') (e:=e) oM (Wc az) oM;have:=oR A (a:=at') (e:=e) oM;omega
 have cO:=okO.a at' mO oM;refine⟨bu,aa (bn _ _ _) ?_⟩;rintro _ _ ⟨rfl,aT⟩;subst aT;cases a7:keep (decide (s.1<=at')) (decide (t.1<=at'));simp only[b_,seval];refine s_ ⟨S_ A e+S_ B e,af,i1,j1,e,vo,O,FH,iX,iX,iX,iX,iS,iX,iX,a1,a2,oM,aJ,fun s Z=>by have:=aR s Z;omega,fun s Z=>by have:=aN s Z;omega,ar,okO,fun s Z=>by have:=mO s Z;omega,?_,rfl⟩;intro x hx;by_cases ax:x<at';exact sO x ax;grind;simp only[b_,seval,n9,a3];refine aa (uQ FH.o ar FH.e oM) ?_;rintro a6 h9 ⟨g9,U9⟩;replace U9:=Gs.up ar U9;simp only[b_,seval];let⟨s1,s2,s3⟩:=jP (a:=at') (b:=e) okO (fun _=>mO) at0 oM;refine s_ ⟨S_ A e+S_ B e,af,i1,j1,e,a6,pY O at' e,FH.ups w U9,iX,iX,iX,iS,iS,iX,iX,a1,a2,oM,aJ,fun s Z=>by have:=aR s Z;omega,fun s Z=>by have:=aN s Z;omega,g9,s1,s3 e (fun s Z=>by have:=mO s Z;omega) (fun _=>Int.le_refl _),?_,rfl⟩;intro x hx;rw[s2 x];by_cases ax:x<at';grind;grind;have ar:=gO.fr F3;rw[Wo oM]at K;simp[nC,u7]at K;simp only[b_,seval,n0,n1,n2,a0,an,(a.fr FH).t_,(b.fr FH).t_,cB,(oM:¬(i1:Int)=A.length)];obtain⟨e,he⟩:∃e,e=min 1073741824 eA:=⟨_,rfl⟩;rw[<-he];have hA:∀x,at'<=x->x<e->P4 A x=decide (s.1<=at'):=fun x h1 h2=>ak x h1 oM;have hB:∀x,at'<=x->x<e->P4 B x=false:=fun x h1 h2=>K x h1 oM;have aJ:e<=max m 0:=oM;have af:S_ A e+S_ B e<S_ A at'+S_ B at':=by have:=uv A (a:=at') (e:=e) oM (Wc a5) oM;have:=oR B (a:=at') (e:=e) oM;omega
 have cO:=okO.a at' mO oM;refine⟨bu,aa (bn _ _ _) ?_⟩;rintro _ _ ⟨rfl,aT⟩;subst aT;cases a7:keep (decide (s.1<=at')) (false);simp only[b_,seval];refine s_ ⟨S_ A e+S_ B e,af,i1,j1,e,vo,O,FH,iX,iX,iX,iX,iS,iX,iX,a1,a2,oM,aJ,fun s Z=>by have:=aR s Z;omega,fun s Z=>by have:=aN s Z;omega,ar,okO,fun s Z=>by have:=mO s Z;omega,?_,rfl⟩;intro x hx;by_cases ax:x<at';exact sO x ax;grind;simp only[b_,seval,n9,a3];refine aa (uQ FH.o ar FH.e oM) ?_;rintro a6 h9 ⟨g9,U9⟩;replace U9:=Gs.up ar U9;simp only[b_,seval];let⟨s1,s2,s3⟩:=jP (a:=at') (b:=e) okO (fun _=>mO) at0 oM;refine s_ ⟨S_ A e+S_ B e,af,i1,j1,e,a6,pY O at' e,FH.ups w U9,iX,iX,iX,iS,iS,iX,iX,a1,a2,oM,aJ,fun s Z=>by have:=aR s Z;omega,fun s Z=>by have:=aN s Z;omega,g9,s1,s3 e (fun s Z=>by have:=mO s Z;omega) (fun _=>Int.le_refl _),?_,rfl⟩;intro x hx;rw[s2 x];by_cases ax:x<at';grind;grind;rw[Wo oM]at ak;simp[nC,u7]at ak;have FH:=F;by_cases cB:(j1:Int)<B.length;let⟨bB,oB,t,bi,bk,cn,bg,az⟩:=Sp.ix (b.fr FH) j1 cB;have eE:=aL az;rw[eE]at K okB;simp[nC,u7]at K;have tm:=bT t (Wc az);have t2:=bf t az;let⟨r1,r2,r3,r4,_⟩:=okB;simp only[b_,seval,n0,n1,a3,a0,an,(a.fr FH).t_,(b.fr FH).t_,cA,cB,bi,bk,bg];refine aa (yh FH.o) ?_;rintro _ h4 ⟨rfl,F4⟩;have FH:=FH.c F4;have ar:=gO.fr F4;obtain⟨eB,bj⟩:∃eB,eB=if at'<t.1 then t.1 else t.2:=⟨_,rfl⟩;rw[<-bj]at K|-;have ci:at'<eB/\eB<=m/\eB<=1073741824/\(t.1=eB\/t.2=eB):=oM;simp only[b_,seval,n0,n1,n2,a0,an,(a.fr FH).t_,(b.fr FH).t_,eq_true (oM:(i1:Int)=A.length),(oM:¬(j1:Int)=B.length)];obtain⟨e,he⟩:∃e,e=min 1073741824 eB:=⟨_,rfl⟩;rw[<-he];have hA:∀x,at'<=x->x<e->P4 A x=false:=fun x h1 h2=>ak x h1 oM;have hB:∀x,at'<=x->x<e->P4 B x=decide (t.1<=at'):=fun x h1 h2=>K x h1 oM;have aJ:e<=max m 0:=oM;have af:S_ A e+S_ B e<S_ A at'+S_ B at':=by have:=uv B (a:=at') (e:=e) oM (Wc az) oM;have:=oR A (a:=at') (e:=e) oM;omega
 have cO:=okO.a at' mO oM;refine⟨bu,aa (bn _ _ _) ?_⟩;rintro _ _ ⟨rfl,aT⟩;subst aT;cases a7:keep (false) (decide (t.1<=at'));simp only[b_,seval];refine s_ ⟨S_ A e+S_ B e,af,i1,j1,e,vo,O,FH,iX,iX,iX,iX,iS,iX,iX,a1,a2,oM,aJ,fun s Z=>by have:=aR s Z;omega,fun s Z=>by have:=aN s Z;omega,ar,okO,fun s Z=>by have:=mO s Z;omega,?_,rfl⟩;intro x hx;by_cases ax:x<at';exact sO x ax;grind;simp only[b_,seval,n9,a3];refine aa (uQ FH.o ar FH.e oM) ?_;rintro a6 h9 ⟨g9,U9⟩;replace U9:=Gs.up ar U9;simp only[b_,seval];let⟨s1,s2,s3⟩:=jP (a:=at') (b:=e) okO (fun _=>mO) at0 oM;refine s_ ⟨S_ A e+S_ B e,af,i1,j1,e,a6,pY O at' e,FH.ups w U9,iX,iX,iX,iS,iS,iX,iX,a1,a2,oM,aJ,fun s Z=>by have:=aR s Z;omega,fun s Z=>by have:=aN s Z;omega,g9,s1,s3 e (fun s Z=>by have:=mO s Z;omega) (fun _=>Int.le_refl _),?_,rfl⟩;intro x hx;rw[s2 x];by_cases ax:x<at';grind;grind;rw[Wo oM]at K;simp[nC,u7]at K;simp only[b_,seval,n0,n1,n9,a0,an,(a.fr FH).t_,(b.fr FH).t_,cA,cB,eq_true (oM:(i1:Int)=A.length),eq_true (oM:(j1:Int)=B.length)];have cO:=okO.a at' mO oM;refine aa (yi gO oM) ?_;rintro _ _ ⟨z,rfl,sz,oz,aT⟩;subst aT;simp only[b_,seval];refine⟨FH,z,O,rfl,oz,sz,okO,fun x=>?_,fun s Z=>by have:=mO s Z;omega⟩;by_cases ax:x<at';exact sO x ax;rw[below O mO x oM,mJ aR (oM:at'<=x),mJ aN (oM:at'<=x),Wo oM,Wo oM];simp[P4,hk.c]
theorem Kq:Keep (.E (.func 271) [] []) (fun a b=>a||b):=by
 refine⟨⟨271,rfl,dI,fun h a b=>?_⟩,rfl⟩;cases a;refine ah ?_;simp only[b_,seval];cases b<;>rfl
 refine ah ?_;simp only[b_,seval];rfl
theorem HT:Keep (.E (.func 270) [] []) (fun a b=>a&& !b):=by refine⟨⟨270,rfl,dI,fun h a b=>?_⟩,rfl⟩;cases a;refine ah ?_;simp only[b_,seval];rfl;refine ah ?_;simp only[b_,seval];cases b<;>rfl
theorem Jf{h:a_}{u v:V}{A B:List (Int×Int)}(w:WF h)(a:Sp h u A)(b:Sp h v B)(ae:P6 A (-1))(K:P6 B (-1))(ha:A.length<=4096)(hb:B.length<=4096)
 (m:Int) (hm:m<=8000) (ac:∀s∈A,s.2<=m) (Z:∀s∈B,s.2<=m):
 ao go 224 [u,v] h fun z h'=>Fr [] h h'/\∃y L,z=.D [y,ZZ 0]/\y.U=true/\X2 h' y L/\P6 L (-1)/\(∀x,P4 L x=(P4 A x||P4 B x))/\∀s∈L,s.2<=max m 0:=by
 refine ah ?_;simp only[b_,seval];refine aa (wj w a b ae K ha hb Kq m hm ac Z) ?_;rintro _ h1 ⟨F,y,L,rfl,r⟩;simp only[b_,seval];exact⟨F,y,L,rfl,r⟩
theorem Cf{h:a_}{u v:V}{A B:List (Int×Int)}(w:WF h)(a:Sp h u A)(b:Sp h v B)(ae:P6 A (-1))(K:P6 B (-1))(ha:A.length<=4096)(hb:B.length<=4096)
 (m:Int) (hm:m<=8000) (ac:∀s∈A,s.2<=m) (Z:∀s∈B,s.2<=m):
 ao go 223 [u,v] h fun z h'=>Fr [] h h'/\∃y L,z=.D [y,ZZ 0]/\y.U=true/\X2 h' y L/\P6 L (-1)/\(∀x,P4 L x=(P4 A x&& !P4 B x))/\∀s∈L,s.2<=max m 0:=by
 refine ah ?_;simp only[b_,seval];refine aa (wj w a b ae K ha hb HT m hm ac Z) ?_;rintro _ h1 ⟨F,y,L,rfl,r⟩;simp only[b_,seval];exact⟨F,y,L,rfl,r⟩
theorem P6.g{L:List (Int×Int)}(ok:P6 L (-1)){m:Int}(Z:m<=8000)(h:∀s∈L,s.2<=m):L.length<=4096:=by have:=ok.a (max m 0) (fun s hs=>by have:=h s hs;omega) oM;omega
theorem wo{h:a_}{v:V}{L:List (Int×Int)}{f t m:Int}(w:WF h)(af:X2 h v L)(ok:P6 L (-1))(hm:m<=8000)(hL:∀s∈L,s.2<=m)(hf:0<=f)(ax:f<=t)(ht:t<=m):
 ao go 166 [v,ZZ f,ZZ t,.h kn] h fun y h'=>Fr [] h h'/\∃L',y.U=true/\X2 h' y L'/\P6 L' (-1)/\(∀x,P4 L' x=if f<=x/\x<t then kn else P4 L x)/\∀s∈L',s.2<=m:=by
 have a:=af.slc;by_cases e:f=t;refine ah ?_;simp only[b_,seval,eq_true e];exact⟨Wl w,L,Xs a,af,ok,fun x=>by rw[if_neg oM],hL⟩;have ae:=ok.g hm hL;obtain⟨h1,K⟩:∃h1,h1=h_ h (sp (f,t)):=⟨_,rfl⟩;have Z:Fr [] h h1:=K▸WA w _;have ar:e_ h1 h.e (sp (f,t)):=K▸Xc w _;have ac:h_ h [ZZ f,ZZ t]=h1:=K.symm;have an:P6 [(f,t)] (-1):=⟨by simp;omega,hf,by simp;omega,by simp;omega,trivial⟩;have s1:Sp h1 (.y h.e 0 1 1) [(f,t)]:=Xy (n:=1) ar rfl;have mx:max m 0=m:=oM;cases kn;refine ah ?_;simp only[b_,seval,eq_false e,ac];refine aa (Cf Z.o (a.fr Z) s1 ok an ae iS m hm hL (by simp;exact ht)) ?_;rintro _ h2 ⟨F2,y,L',rfl,o1,sL,ak,iL,mL⟩;simp only[b_,seval];rw[mx]at mL;refine⟨Z.c F2,L',o1,sL,ak,fun x=>?_,mL⟩;rw[iL,jK,pG];by_cases c:f<=x/\x<t;grind;grind;refine ah ?_;simp only[b_,seval,eq_false e,ac];refine aa (Jf Z.o (a.fr Z) s1 ok an ae iS m hm hL (by simp;exact ht)) ?_;rintro _ h2 ⟨F2,y,L',rfl,o1,sL,ak,iL,mL⟩;simp only[b_,seval];rw[mx]at mL;refine⟨Z.c F2,L',o1,sL,ak,fun x=>?_,mL⟩;rw[iL,jK,pG];by_cases c:f<=x/\x<t;grind;grind
theorem Cm{h:a_}{c vk:V}{e:Int}(w:WF h)(hc:c.U=true)(hk:vk.U=true):
 ao go 165 [.B [c],vk,ZZ e] h fun z h'=>Fr [] h h'/\z=if e=0 then .D [.B [c,vk],ZZ 0]else .D [.B [.O,.r],ZZ e]:=by
 let⟨h1,an,K,ay⟩:=aq w [c];let⟨h2,af,Z,ak⟩:=aq K.o [.O,.r];have ar:=K.c Z;by_cases e0:e=0;subst e0;refine ah ?_;simp[b_,<-an,<-af,(Z.i ay).N,aF hk];refine B_ Z.o ak ?_;rintro h3 ae ac ax;simp[b_,ae.N];exact ar.z ac w K.e;refine ah ?_;simp[b_,<-an,<-af,eq_false e0];refine B_ Z.o ak ?_;rintro h3 ae ac ax;simp[b_,ae.N];exact ar.z ac w K.e
theorem Eh{h:a_}{v:V}{L:List (Int×Int)}{a n:Int}(w:WF h)(s:Sp h v L)(ok:P6 L (-1))(hl:L.length<=4096)(ha:0<=a)(Z:a<=1073741824)(hn:0<=n)(K:n<=1073741824):
 ao go 277 [v,ZZ a,ZZ n] h fun u h'=>u=ZZ 0/\Fr [] h h':=by
 refine ah ?_;simp[b_];refine aa (mT w s ok hl) ?_;rintro _ h1 ⟨rfl,F⟩;simp[b_,(oM:¬a<0),(oM:¬1073741824<a),(oM:¬n<0),(oM:¬1073741824<n)];exact F
def shf(a n:Int)(f:Int->Bool)(x:Int):Bool:=if x<a then f x else if x<a+n then false else f (x-n)
theorem Lg{h:a_}{v:V}{L:List (Int×Int)}{a n m:Int}(w:WF h)(s:Sp h v L)(ok:P6 L (-1))(hm:m+n<=8000)(hL:∀s∈L,s.2<=m)(a9:0<=m)(ha:0<=a)(a8:a<=m)(hn:0<=n):
 ao go 240 [v,ZZ a,ZZ n] h fun z h'=>Fr [] h h'/\∃y L',z=.D [y,ZZ 0]/\y.U=true/\X2 h' y L'/\P6 L' (-1)/\(∀x,P4 L' x=shf a n (P4 L) x)/\∀s∈L',s.2<=m+n:=by
 have aN:=ok.g oM hL;refine ah ?_;simp only[b_,seval];refine aa (Eh w s ok aN ha oM hn oM) ?_;rintro _ h1 ⟨rfl,F1⟩;have s1:=s.fr F1;by_cases e:L=[];subst e;have hz:aP .d [v]=some (ZZ 0):=s.t_;simp(disch:=omega) only[b_,seval,ag,hz,(oM:¬(0:Int)<=0-1)];apply aA (fun _ env K=>K=h1/\env.c_ 10=some .r/\env.c_ 46=some (ZZ 0)/\env.c_ 45=some (ZZ 0)) 0 oM ⟨rfl,iS,iS,iS⟩;rintro k env K ⟨rfl,af,ac,ae⟩;simp only[b_,seval,af,ac,ae,(oM:¬(0:Int)<0)];apply aa (yi (B:=0) Zs iS);rintro _ _ ⟨z,rfl,sz,oz,K⟩;subst K;simp only[b_,seval];exact⟨F1,z,[],rfl,oz,sz,trivial,fun x=>by simp[shf,P4],iS⟩;have pos:0<L.length:=XT.2 e;let⟨bb,oo,t,e1,e2,e3,e4,e5⟩:=Sp.ix s1 (L.length-1) oM;have el:((L.length-1:Nat):Int)=(L.length:Int)-1:=oM;rw[el]at e1;have tm:=hL t (Wc e5);have c:a<t.2\/¬a<t.2:=oM;obtain c|c:=c;all_goals
  simp(disch:=omega) only[b_,seval,ag,s1.t_,(oM:(0:Int)<=(L.length:Int)-1),e1,e3,c,(oM:¬1073741824<t.2+n)];refine aA (fun k env K=>∃(i:Nat)(vo:V)(O:List (Int×Int))(Z:Int),Fr [] h K/\env.c_ 44=some v/\env.c_ 45=some (ZZ L.length)/\env.c_ 46=some (ZZ i)/\env.c_ 10=some vo/\
   env.c_ 1=some (ZZ a)/\env.c_ 2=some (ZZ n)/\i<=L.length/\F_ sp 2 K h.e vo O/\P6 O (-1)/\P6 (L.drop i) Z/\(∀s∈O,s.2<=if Z<=a then Z else Z+n)/\Z<=m/\
   (∀x,P4 O x=shf a n (P4 (L.take i)) x)/\k=L.length-i) L.length oM ?_ ?_
  exact⟨0,.r,[],-1,F1,iS,iS,iS,iS,iS,iS,oM,Zs,trivial,ok,iS,oM,fun x=>by simp[shf,P4],rfl⟩;rintro k env K ⟨i,vo,O,Z,F,a4,ae,ac,af,g1,g2,hi,gO,ax,az,mO,lm,sO,rfl⟩;have cO:=ax.a (m+n) (fun s hs=>by have:=mO s hs;split at this<;>omega) oM;by_cases ar:(i:Int)<L.length;let⟨bb,oo,s,e1,e2,e3,e4,e5⟩:=Sp.ix (Xn (L:=L) ‹Sp h v L› F) i ar
  have sm:=hL s (Wc e5);rw[aL e5]at az;let⟨k1,k2,k3,k4,k5⟩:=az;let⟨h2,aH,an,a1⟩:=aq F.o [ZZ 0,ZZ 0];simp only[b_,seval,a4,ae,ac,ar,e1,e4,<-aH];apply B_ an.o a1;rintro h3 ak aT a7;have ay:Fr [] K h3:=an.z aT F.o (VZ _);have F3:=F.c ay;have b3:h.e<=h3.e:=F3.e;have bk:h.e<=K.e:=F.e;simp only[b_,seval,af,g1,ak.j];apply aa (uQ F3.o (gO.fr ay) b3 oM);rintro v1 h4 ⟨aJ,U4⟩;let⟨p1,p2,p3⟩:=jP (a:=s.1) (b:=min s.2 a) ax (fun K s' hs'=>by have:=mO s' hs';split at this<;>omega) k2 oM;have a0:∀s'∈pY O s.1 (min s.2 a),s'.2<=if s.2<=a then s.2 else s.2+n:=p3 _ (fun s' hs'=>by have:=mO s' hs';split at this<;>split<;>omega) (fun _=>by split<;>omega);have aR:∀s'∈pY O s.1 (min s.2 a),s'.2<=max s.1 a+n:=p3 _ (fun s' hs'=>by have:=mO s' hs';split at this<;>omega) (fun _=>by omega);have ba:=p1.a (m+n) (fun s hs=>by have:=a0 s hs;split at this<;>omega) oM;have a2:e_ h4 K.e [ZZ s.1,ZZ s.2]:=by refine U4.I _ _ ?_ ak;obtain⟨rfl,_⟩|⟨b,n',rfl,_,_,_,og⟩:=gO;simp[vb];have:=og.lt F.o;simp[vb];omega
  have a3:=Gs.up (gO.fr ay) U4;simp(disch:=omega) only[b_,seval,ag,g1,g2,a2.j];apply aa (uQ U4.o aJ (Wy b3 U4.e) oM);rintro v2 h5 ⟨a6,U5⟩;have a5:=Gs.up aJ U5;let⟨q1,q2,q3⟩:=jP (a:=max s.1 a+n) (b:=s.2+n) p1 (fun _=>aR) oM oM;simp(disch:=omega) only[b_,seval,ag,ac];refine s_ ⟨L.length-(i+1),oM,i+1,v2,_,s.2,F3.ups w (a3.b a5),iX,iX,iS,iS,iX,iX,oM,a6,q1,k5,q3 _ a0 (fun _=>by split<;>omega),sm,?_,rfl⟩;intro x;rw[q2,p2,sO,Wn,e5];simp only[Zk,shf,rW,jK,pG,ZR];by_cases c1:x<a;grind;grind;simp only[b_,seval,ae,ac,af,ar];apply aa (yi gO oM);rintro _ _ ⟨z,rfl,sz,oz,K⟩;subst K;simp only[b_,seval];refine⟨F,z,O,rfl,oz,sz,ax,fun x=>by rw[sO,Wj oM],fun s hs=>by have:=mO s hs;split at this<;>omega⟩
structure Kn(L:List (Int×Int))(ks:List Bool):Prop where
 ok:P6 L (-1)
 le:∀s∈L,s.2<=ks.length
 eq:∀i:Nat,P4 L i=ks.getD i false
def Ix(h:a_)(v:V)(l:List Int)(ks:List Bool):Prop:=∃p vk L,v=.B [pv p,vk]/\Rp h (.B [pv p]) l/\X2 h vk L/\Kn L ks/\ks.length=l.length/\l.length<=1024
theorem Ix.fr{h:a_}{v:V}{l:List Int}(a:Ix h v l ks)(f:Fr [] h h'):Ix h' v l ks:=by let⟨p,Z,L,e,r,s,x⟩:=a;exact⟨p,Z,L,e,r.fr f,s.fr f,x⟩
theorem Ix.t_{h:a_}{v:V}{l:List Int}(a:Ix h v l ks):ks.length=l.length/\l.length<=1024:=by let⟨p,Z,L,e,r,s,_,x⟩:=a;exact x
theorem Ix.fit{h:a_}{v:V}{l:List Int}(a:Ix h v l ks):I_ l:=by let⟨p,Z,L,e,r,s,_,x⟩:=a;let⟨_,_,_,_,_,f⟩:=r;exact f
theorem ko{h:a_}{v:V}{l:List Int}(w:WF h)(a:Ix h v l ks):ao go 133 [v] h fun u h'=>u=ZZ l.length/\Fr [] h h':=by obtain⟨p,vk,L,rfl,r,s,_⟩:=a;let⟨h1,K,Z,ac⟩:=aq w [pv p,vk];refine ah ?_;simp[b_,<-K,ac.N];refine aa (qO Z.o (r.fr Z)) ?_;rintro _ h2 ⟨rfl,F2⟩;simp[b_];exact Z.c F2
theorem Lc{h:a_}{v:V}{l:List Int}{i:Int}(w:WF h)(a:Ix h v l ks):
 ao go 87 [v,ZZ i] h fun u h'=>(u=if 0<=i/\i<=l.length then .D [ZZ (l.take i.toNat).sum,ZZ 0]else .D [ZZ 0,ZZ 4])/\Fr [] h h':=by
 obtain⟨p,vk,L,rfl,r,s,_⟩:=a;let⟨h1,K,Z,ac⟩:=aq w [pv p,vk];refine ah ?_;simp[b_,<-K,ac.N];refine aa (Nz Z.o (r.fr Z)) ?_;rintro _ h2 ⟨rfl,F2⟩;by_cases c:0<=i/\i<=l.length;simp[if_pos c];simp[b_];exact Z.c F2;simp[if_neg c];simp[b_];exact Z.c F2
theorem Ja{h:a_}{v:V}{l:List Int}{i:Int}(w:WF h)(a:Ix h v l ks):
 ao go 124 [v,ZZ i] h fun u h'=>(u=if 0<=i/\i<l.length then .D [ZZ (l.getD i.toNat 0),ZZ 0]else .D [ZZ 0,ZZ 4])/\Fr [] h h':=by
 obtain⟨p,vk,L,rfl,r,s,_⟩:=a;let⟨h1,K,Z,ac⟩:=aq w [pv p,vk];refine ah ?_;simp only[b_,seval,<-K,ac.N];refine aa (Jh Z.o (r.fr Z)) ?_;rintro _ h2 ⟨rfl,F2⟩;by_cases c:0<=i/\i<l.length;simp only[if_pos c];simp[b_];exact Z.c F2;simp[if_neg c];simp[b_];exact Z.c F2
theorem yI{h:a_}{v:V}{l:List Int}{x:Int}(w:WF h)(a:Ix h v l ks)(ae:-9223372036854775808<=x)(af:x<=9223372036854775807):
 ao go 108 [v,ZZ x] h fun u h'=>(u=if 0<=x/\x<l.sum then .D [ZZ (aG l x).1,ZZ (aG l x).2,ZZ 0]else .D [ZZ 0,ZZ 0,ZZ 4])/\Fr [] h h':=by
 obtain⟨p,vk,L,rfl,r,s,_⟩:=a;let⟨h1,K,Z,ac⟩:=aq w [pv p,vk];refine ah ?_;simp[b_,<-K,ac.N];refine aa (Lu Z.o (r.fr Z) ae af) ?_;rintro _ h2 ⟨rfl,F2⟩;by_cases c:0<=x/\x<l.sum;simp[if_pos c];simp[b_];exact Z.c F2;simp[if_neg c];simp[b_];exact Z.c F2
theorem Kn.t_{L:List (Int×Int)}(k:Kn L ks)(h:ks.length<=1024):L.length<=4096:=k.ok.g (m:=ks.length) oM k.le
theorem xd{h:a_}{v:V}{l:List Int}{i:Int}(w:WF h)(a:Ix h v l ks):
 ao go 125 [v,ZZ i] h fun u h'=>(u=if 0<=i/\i<l.length then .D [.h (ks.getD i.toNat false),ZZ 0]else .D [.h false,ZZ 4])/\Fr [] h h':=by
 have a0:=a;obtain⟨p,vk,L,rfl,r,s,kn,e1,e2⟩:=a;let⟨h1,ac,Z,K⟩:=aq w [pv p,vk];by_cases h0:i<0;refine ah ?_;simp only[b_,seval,<-ac,h0];exact⟨by rw[if_neg oM],Z⟩;refine ah ?_;simp only[b_,seval,<-ac,K.N,h0];apply aa (ko Z.o (a0.fr Z));rintro _ h2 ⟨rfl,F2⟩;by_cases hi:(l.length:Int)<=i;simp only[b_,seval,hi];exact⟨by rw[if_neg oM],Z.c F2⟩;simp only[b_,seval,hi,(F2.i K).j];apply aa (NP F2.o (s.fr (Z.c F2)).slc kn.ok (kn.t_ oM));rintro _ h3 ⟨rfl,F3⟩;simp only[b_,seval];refine⟨?_,(Z.c F2).c F3⟩;rw[if_pos oM];have:=kn.eq i.toNat;rw[(oM:((i.toNat:Nat):Int)=i)]at this;rw[this]
theorem sB{h:a_}{s:Int}:ao go 163 [ZZ s] h fun u h'=>u=.h (decide (s<1\/2305843009213693952<s))/\h'=h:=by by_cases c:s<1;refine ah ?_;simp only[b_,seval,c];simp;refine ah ?_;simp only[b_,seval,c];simp
def bJ(l:List Int)(i size:Int):Int:=if 0<=i/\i<l.length then if size<1\/2305843009213693952<size then 12 else if 4611686018427387904-(l.sum-l.getD i.toNat 0)<size then 13 else 0 else 4
theorem xv{l:List Int}{i:Int}(h:¬((0<=i/\i<l.length)/\(size<1\/2305843009213693952<size))):bJ l i size=mW l i size:=by unfold bJ mW;by_cases c:0<=i/\i<l.length;omega;omega
theorem H6{i j:Nat}{b:Bool}(h:i<ks.length):(ks.set i b).getD j false=if j=i then b else ks.getD j false:=by grind
theorem Dr{h:a_}{v:V}{l:List Int}{i:Int}(w:WF h)(a:Ix h v l ks)(s0:-9223372036854775808<=size)(s1:size<=9223372036854775807)(i0:-9223372036854775808<=i)(i1:i<=9223372036854775807):
 ao go 107 [v,ZZ i,ZZ size,.h kn] h fun u h'=>Fr [] h h'/\∃c d,u=.D [.B [c,d],ZZ (bJ l i size)]/\c.U=true/\d.U=true/\(bJ l i size=0->Ix h' (.B [c,d]) (l.set i.toNat size) (ks.set i.toNat kn)):=by
 have a0:=a;obtain⟨p,vk,L,rfl,r,s,aJ,e1,e2⟩:=a;let⟨h1,ae,an,a4⟩:=aq w [pv p,vk];let⟨h2,af,aH,K⟩:=aq an.o [.O,.r];have Z:=an.c aH;have o1:=aH.i a4;have b1:h.e<=h1.e:=an.e;have c:i<0\/(0<=i/\(l.length:Int)<=i)\/(0<=i/\i<l.length/\¬(size<1\/2305843009213693952<size))\/(0<=i/\i<l.length/\(size<1\/2305843009213693952<size)):=oM;obtain c|c|c|c:=c
 case' inr.inr.inr=>
  refine ah ?_;simp[b_,<-ae,<-af,o1.N,eq_true c.1];refine aa (ko Z.o (a0.fr Z)) ?_;rintro _ h3 ⟨rfl,F3⟩;simp[b_,eq_true c.2.1];refine aa sB ?_;rintro _ _ ⟨rfl,hh⟩;subst hh;simp[b_,eq_true c.2.2];refine B_ F3.o (F3.i K) ?_;rintro h4 aN aT a9;simp only[b_,seval,aN.N];have e:bJ l i size=12:=by unfold bJ;rw[if_pos ⟨c.1,c.2.1⟩,if_pos c.2.2]
  rw[e];exact⟨(Z.c F3).z aT w b1,_,_,rfl,rfl,rfl,iS⟩
 case' inl=>
  refine ah ?_;simp[b_,<-ae,<-af,o1.N,(oM:¬0<=i)];obtain⟨h3,F3,e3⟩:∃h3,Fr [] h2 h3/\h3=h2:=⟨h2,Wl Z.o,rfl⟩;rw[<-e3];have ee:=xv (l:=l) (i:=i) (size:=size) oM
 case' inr.inl=>
  refine ah ?_;simp[b_,<-ae,<-af,o1.N,eq_true c.1];refine aa (ko Z.o (a0.fr Z)) ?_;rintro _ h3 ⟨rfl,F3⟩;simp[b_,(oM:¬i<l.length),(F3.i o1).N];have ee:=xv (l:=l) (i:=i) (size:=size) oM
 case' inr.inr.inl=>
  refine ah ?_;simp[b_,<-ae,<-af,o1.N,eq_true c.1];refine aa (ko Z.o (a0.fr Z)) ?_;rintro _ h3 ⟨rfl,F3⟩;simp[b_,eq_true c.2.1];apply aa sB;rintro _ _ ⟨rfl,hh⟩;subst hh;simp[b_,eq_false c.2.2,(F3.i o1).N];have ee:=xv (l:=l) (i:=i) (size:=size) oM
 all_goals
  clear c;try simp only[b_,seval,DF,j_,(F3.i o1).N]
  have a7:=Z.c F3;apply aa (Li F3.o (r.fr a7) s0 s1);rintro _ h4 ⟨F4,c4,rfl,a2,hr⟩;rw[ee];let⟨h5,aR,az,a3⟩:=aq F4.o [.O];simp[b_,<-aR];apply ai (c':=[c4]) az.o a3 rfl (by simp[aw,V.s,a2]) rfl;rintro h6 o6 F6 n6;have ay:Fr [] h4 h6:=az.z F6 F4.o (VZ _);have a8:=(F4.c ay);have ak:=F3.c a8;by_cases z:mW l i size=0;have hi:0<=i/\i<l.length:=by unfold mW at z;by_cases hh:0<=i/\i<l.length;exact hh;rw[if_neg hh]at z;omega
  simp(disch:=omega) only[b_,seval,j_,ag,eq_true z,o6.N,(ak.i o1).j];apply aa (wo (m:=ks.length) ay.o (s.fr (Z.c ak)) aJ.ok oM aJ.le oM oM oM);rintro a6 h7 ⟨F7,L',ov,sL,a5,iL,mL⟩;simp only[b_,j_];apply aa (Cm F7.o a2 ov);rintro _ h8 ⟨F8,rfl⟩;rw[if_pos rfl];have ax:=(ak.c F7).c F8;simp only[b_,seval,j_];apply B_ F8.o (ax.i K);rintro h9 ar ac a1;simp only[b_,seval,DF,j_,ar.N,o6.N,(ak.i o1).j,(F7.i o6).N];have rr:=(hr z);let⟨t',p',ep,at',et,ft⟩:=rr;cases ep;refine⟨(Z.c ax).z ac w b1,_,_,by rw[z],gH _,ov,fun _=>⟨p',a6,L',rfl,?_,?_,?_,?_,?_⟩⟩;exact(Rp.fr (l:=l.set i.toNat size) ⟨t',p',rfl,at',et,ft⟩ ((ay.c F7).c F8)).frb ac (ax.i K) iS;exact(sL.fr F8).frb ac (ax.i K) (Eo iS);refine⟨a5,by simpa using mL,fun j=>?_⟩;rw[iL,H6 oM,aJ.eq];by_cases cj:j=i.toNat;rw[if_pos cj,if_pos oM];rw[if_neg cj,if_neg oM];simpa using e1;simpa using e2;simp only[b_,seval,eq_false z];apply B_ ay.o (ak.i K);rintro h9 ar ac a1;simp only[b_,seval,ar.N];exact⟨(Z.c ak).z ac w b1,_,_,rfl,rfl,rfl,by simp[]⟩
def xD(t:Int):List Int->Int
 |[]=>0
 |s::l=>if s<1\/2305843009213693952<s then 12 else if 4611686018427387904<t+s then 13 else xD (t+s) l
theorem AC:∀(a:List Int)(s t:Int),Z1 (a++[s]) t=if Z1 a t=0 then(if s<0∨2305843009213693952<s then 12 else if 4611686018427387904-(t+a.sum)<s then 13 else 0)else Z1 a t
 |[],s,t=>by simp[Z1]
 |x::a,s,t=>by simp only[List.cons_append,Z1];by_cases c1:x<0∨2305843009213693952<x;omega;simp only[if_neg c1];by_cases c2:4611686018427387904-t<x;omega;simp only[if_neg c2];rw[AC a s (t+x)];simp[(oM:t+x+a.sum=t+(x+a.sum))];rfl
def c9(l:List Int)(a:Int)(m:List Int):Int:=if 0<=a/\a<=l.length then if 1024-(l.length:Int)<m.length then 3 else if xD 0 m=0 then(if 4611686018427387904-m.sum<l.sum then 13 else 0)else xD 0 m else 4
theorem HV{a n:Nat}(Z:a<=ks.length)(j:Nat):
 (ks.take a++List.replicate n kn++ks.drop a).getD j false=if j<a then ks.getD j false else if j<a+n then kn else ks.getD (j-n) false:=by
 simp only[Xo];by_cases c1:j<a;grind;grind
theorem Ld{h:a_}{v u:V}{l m:List Int}{i:Int}(w:WF h)(a:Ix h v l ks)(am:lP h u m)(hm:m.length<=1000000)(i0:-9223372036854775808<=i)(i1:i<=9223372036854775807):
 ao go 231 [v,ZZ i,u,.h kn] h fun z h'=>Fr [] h h'/\∃c d,z=.D [.B [c,d],ZZ (c9 l i m)]/\c.U=true/\d.U=true/\
  (c9 l i m=0->Ix h' (.B [c,d]) (l.take i.toNat++m++l.drop i.toNat) (ks.take i.toNat++List.replicate m.length kn++ks.drop i.toNat)):=by
 have a0:=a;obtain⟨p,vk,L,rfl,r,s,aR,e1,e2⟩:=a;let⟨h1,a2,az,bk⟩:=aq w [pv p,vk];let⟨h2,a4,ax,Z⟩:=aq az.o [.O,.r];have K:=az.c ax;have o1:=ax.i bk;have b1:h.e<=h1.e:=az.e;by_cases c0:i<0
 ·refine ah ?_;simp only[b_,seval,<-a2,<-a4,c0];refine B_ ax.o Z ?_;rintro h4 an ay bi;simp only[b_,seval,an.N];have e:c9 l i m=4:=by unfold c9;rw[if_neg oM]
  rw[e];exact⟨K.z ay w b1,_,_,rfl,rfl,rfl,iS⟩
 ·refine ah ?_;simp only[b_,seval,<-a2,<-a4,o1.N,c0];refine aa (ko K.o (a0.fr K)) ?_;rintro _ h3 ⟨rfl,F3⟩;by_cases c1:(l.length:Int)<i
  ·simp only[b_,seval,c1];apply B_ F3.o (F3.i Z);rintro h4 an ay bi;simp only[b_,seval,an.N];have e:c9 l i m=4:=by unfold c9;rw[if_neg oM]
   rw[e];exact⟨(K.c F3).z ay w b1,_,_,rfl,rfl,rfl,iS⟩
  ·have bC:=am.fr (K.c F3);simp only[b_,seval,c1,bC.t_,(F3.i o1).N];apply aa (ko F3.o (a0.fr (K.c F3)));rintro _ h4 ⟨rfl,F4⟩;have ar:=F3.c F4;have aN:=K.c ar;have aH:=am.fr aN;have hi:0<=i/\i<=l.length:=oM
   by_cases c2:1024-(l.length:Int)<m.length
   ·simp(disch:=omega) only[b_,seval,ag,c2];apply B_ F4.o (ar.i Z);rintro h5 ac ae a5;simp only[b_,seval,ac.N];have e:c9 l i m=3:=by unfold c9;rw[if_pos hi,if_pos c2]
    rw[e];exact⟨aN.z ae w b1,_,_,rfl,rfl,rfl,iS⟩
   ·simp(disch:=omega) only[b_,seval,ag,c2,aH.t_];have o2:=ar.i Z;refine aA (fun k env hh=>hh=h4/\∃(j:Nat),env.c_ 36=some (ZZ j)/\env.c_ 34=some u/\env.c_ 35=some (ZZ m.length)/\env.c_ 2=some u/\env.c_ 1=some (ZZ i)/\env.c_ 3=some (.h kn)/\
     env.c_ 4=some (.u h.e 0)/\env.c_ 8=some (.u h1.e 0)/\j<=m.length/\Z1 (m.take j) 0=0/\0<=(m.take j).sum/\(m.take j).sum<=4611686018427387904/\xD (m.take j).sum (m.drop j)=xD 0 m/\k=m.length-j) m.length oM ?_ ?_
    ·exact⟨rfl,0,iS,iS,iS,iS,iS,iS,iS,iS,oM,by simp[Z1],iS,iS,iS,rfl⟩
    ·rintro k env hh ⟨rfl,j,a6,bv,bj,g2,g1,g3,g4,g8,hj,ck,sn,sm,se,rfl⟩;by_cases a8:(j:Int)<m.length
     ·let⟨bb,oo,x,q1,q2,q3⟩:=aH.ix .i64 j oM a8;simp at q3;rw[aL q3,xD]at se;simp only[b_,seval,a6,bv,bj,a8,q1,q2];apply aa sB;rintro _ _ ⟨rfl,hh⟩;subst hh;by_cases c3:x<1\/2305843009213693952<x
      ·simp only[b_,seval,eq_true c3,g8];apply B_ F4.o o2;rintro h5 ac ae a5;simp only[b_,seval,ac.N,g8];rw[if_pos c3]at se;have e:c9 l i m=12:=by unfold c9;rw[if_pos hi,if_neg c2,if_neg oM,<-se]
       rw[e];exact⟨aN.z ae w b1,_,_,rfl,rfl,rfl,iS⟩
      ·rw[if_neg c3]at se;have hv:u≠.L:=Sl.ne aH oM;let⟨u',p1,p2⟩:=aH.upto hv .i64 ((j:Int)+1) oM oM;have tk:m.take (j+1)=m.take j++[x]:=by rw[Wn,q3];rfl
       rw[(oM:((j:Int)+1).toNat=j+1)]at p2;have cs:Z1 (m.take (j+1)) 0=if 4611686018427387904<(m.take j).sum+x then 13 else 0:=by
        rw[tk,AC,if_pos ck,if_neg oM];by_cases c4:4611686018427387904<(m.take j).sum+x
        ·omega
        ·omega
       simp(disch:=omega) only[b_,seval,ag,eq_false c3,g2,p1];apply aa (uW F4.o p2 oO);rintro _ _ ⟨rfl,hh⟩;subst hh;rw[if_neg oO,cs];by_cases c4:4611686018427387904<(m.take j).sum+x
       ·rw[if_pos c4]at se|-;simp only[b_,seval,g8];apply B_ F4.o o2;rintro h5 ac ae a5;simp only[b_,seval,ac.N,g8];have e:c9 l i m=13:=by unfold c9;rw[if_pos hi,if_neg c2,if_neg oM,<-se]
        rw[e];exact⟨aN.z ae w b1,_,_,rfl,rfl,rfl,iS⟩
       ·rw[if_neg c4]at se|-;simp(disch:=omega) only[b_,seval,ag,a6];have ts:(m.take (j+1)).sum=(m.take j).sum+x:=by rw[tk];simp
        refine s_ ⟨m.length-(j+1),oM,rfl,j+1,iS,iX,iX,iX,iX,iX,iX,iX,oM,by rw[cs,if_neg c4],by rw[ts];omega,by rw[ts];omega,by rw[ts];exact se,rfl⟩
        done
     ·have ej:j=m.length:=oM
      subst ej;simp[xD]at ck se sn sm;simp only[b_,seval,a6,bj,g2,g1,g4,a8,(ar.i o1).N];apply aa (Lj F4.o (r.fr aN) aH hm);rintro _ h5 ⟨F5,c5,rfl,bm,hr⟩;have ei:uZ l i m=c9 l i m:=by
       unfold uZ c9 ofE kC;rw[if_pos hi,if_pos hi,if_neg (oM:¬4096<m.length),if_pos ck,if_neg (oM:¬4096<l.length+m.length),if_neg c2,if_pos se.symm]
      rw[ei]at hr|-;let⟨h6,ba,a3,bg⟩:=aq F5.o [.O];simp only[b_,seval,<-ba];apply ai (c':=[c5]) a3.o bg rfl (by simp[aw,V.s,bm]) rfl;rintro h7 o7 F7 n7;have a1:Fr [] h5 h7:=a3.z F7 F5.o (VZ _);have aJ:=(ar.c F5).c a1;by_cases z:c9 l i m=0
      ·simp only[b_,seval,eq_true z,g2,g1,g4,(aJ.i o1).j,am.t_];apply aa (Lg (m:=ks.length) a1.o (s.fr (K.c aJ)).slc aR.ok oM aR.le oM oM oM oM);rintro _ h8 ⟨F8,cb,L1,rfl,ci,bz,bt,bB,bn⟩;simp(disch:=omega) only[b_,seval,j_,ag,g2,g1,g3,(F8.i o7).N,am.t_];apply aa (wo (m:=ks.length+m.length) F8.o bz bt oM bn oM oM oM);rintro bu h9 ⟨F9,L2,bf,bT,bA,bE,cg⟩;simp only[b_,seval,j_];apply aa (Cm F9.o bm bf);rintro _ cc ⟨aT,rfl⟩;rw[if_pos rfl];have ak:=((aJ.c F8).c F9).c aT;simp only[b_,seval,j_,g8];apply B_ aT.o (ak.i Z);rintro ch a7 af bw;simp only[b_,seval,DF,j_,a7.N,g8,(F8.i o7).N,((F8.c F9).i o7).N];let⟨t',p',ep,at',et,ft⟩:=hr z;cases ep;refine⟨(K.c ak).z af w b1,_,_,by rw[z],gH _,bf,fun _=>⟨p',bu,L2,rfl,?_,?_,?_,?_,?_⟩⟩
       ·exact(Rp.fr (l:=l.take i.toNat++m++l.drop i.toNat) ⟨t',p',rfl,at',et,ft⟩ (((a1.c F8).c F9).c aT)).frb af (ak.i Z) iS
       ·exact(bT.fr aT).frb af (ak.i Z) (Eo iS)
       ·refine⟨bA,?_,fun j=>?_⟩
        ·grind
        ·rw[bE,bB,HV oM];unfold shf;by_cases d1:j<i.toNat
         ·rw[if_neg oM,if_pos oM,if_pos d1,aR.eq]
         ·by_cases d2:j<i.toNat+m.length
          ·grind
          ·rw[if_neg oM,if_neg oM,if_neg oM,if_neg d1,if_neg d2,<-aR.eq];congr 1;omega
       ·simp;omega
       ·simp;omega
      ·simp only[b_,seval,eq_false z,g8];apply B_ a1.o (aJ.i Z);rintro h9 a9 bh ca;simp only[b_,seval,a9.N,g8];exact⟨(K.c aJ).z bh w b1,_,_,rfl,rfl,rfl,by simp[]⟩
end Go.Ev.Lay
