/- An evaluator of the program, and contracts over it: LayA to LayN. -/
import Derived.Test.YtknldhlnhobdhaaGreatDoorP05
set_option linter.unusedSimpArgs false
set_option linter.unusedVariables false
set_option linter.constructorNameAsVariable false
set_option linter.unnecessarySimpa false
namespace Go.Ev.Lay
set_option maxRecDepth 4000
inductive Tr where
 |nil
 |node (l:Tr) (s:Int) (r:Tr)
namespace Tr
def list:Tr→List Int
 |nil=>[]
 |node l s r=>l.list++s::r.list
def many:Tr→Int
 |nil=>0
 |node l _ r=>l.many+r.many+1
def sum:Tr→Int
 |nil=>0
 |node l s r=>l.sum+s+r.sum
def tall:Tr→Int
 |nil=>0
 |node l _ r=>max l.tall r.tall+1
theorem many_eq:∀t:Tr,t.many=t.list.length
 |nil=>rfl
 |node l s r=>by simp[many,list,many_eq l,many_eq r];omega
theorem sum_eq:∀t:Tr,t.sum=t.list.sum
 |nil=>rfl
 |node l s r=>by simp[sum,list,sum_eq l,sum_eq r];omega
theorem tall_nn:∀t:Tr,0≤t.tall
 |nil=>by simp[tall]
 |node l s r=>by have:=tall_nn l;have:=tall_nn r;simp only[tall];omega
theorem tall_le:∀t:Tr,t.tall≤t.many
 |nil=>by simp[tall,many]
 |node l s r=>by have a:=tall_le l;have b:=tall_le r;have c:=many_eq l;have d:=many_eq r;simp only[tall,many];omega
theorem many_nn(t:Tr):0≤t.many:=by rw[many_eq];omega
end Tr
def At(h:Heap):Tr→Option Nat→Prop
 |.nil,p=>p=none
 |.node l s r,p=>∃b pl pr,p=some b∧Own h b [pv pl,pv pr,.int .i64 s,.int .i64 (Tr.node l s r).many,.int .i64 (Tr.node l s r).sum,.int .i64 (Tr.node l s r).tall]∧At h l pl∧At h r pr
theorem At.fr{h h':Heap}(f:Fr [] h h'):∀{t:Tr}{p:Option Nat},At h t p→At h' t p
 |.nil,_,a=>a
 |.node l s r,_,⟨b,pl,pr,e,o,al,ar⟩=>⟨b,pl,pr,e,f.get o,At.fr f al,At.fr f ar⟩
def Fit(l:List Int):Prop:=(∀x∈l,0≤x)∧l.sum≤4611686018427387904∧(l.length:Int)≤1000000
theorem sum_nn:∀{l:List Int},(∀x∈l,0≤x)→0≤l.sum
 |[],_=>by simp
 |x::l,h=>by have:=sum_nn (l:=l) fun y hy=>h y iX;have:=h x iS;simp;omega
theorem Fit.left{a b:List Int}(f:Fit (a++b)):Fit a:=by let⟨p,q,r⟩:=f;have hb:0≤b.sum:=sum_nn fun x hx=>p x iX;refine⟨fun x hx=>p x iX,?_,?_⟩;grind;grind
theorem Fit.right{a b:List Int}(f:Fit (a++b)):Fit b:=by let⟨p,q,r⟩:=f;have hb:0≤a.sum:=sum_nn fun x hx=>p x iX;refine⟨fun x hx=>p x iX,?_,?_⟩;grind;grind
theorem Fit.nn{l:List Int}(f:Fit l):0≤l.sum:=sum_nn f.1
theorem cE{h:Heap}{t:Tr}{p:Option Nat}(a:At h t p):aj go 266 [pv p] h fun v h'=>v=.int .i64 t.tall∧h'=h:=by
 refine ab ?_;cases t with
 |nil=>have a:p=none:=a;subst a;simp only[evs,seval,gK,Tr.tall]
 |node l s r=>obtain⟨b,pl,pr,rfl,o,_⟩:=a;simp only[evs,seval,aI,o.ld1]
theorem eZ{h:Heap}{t:Tr}{p:Option Nat}(a:At h t p):aj go 206 [pv p] h fun v h'=>v=.int .i64 t.many∧h'=h:=by
 refine ab ?_;cases t with
 |nil=>have a:p=none:=a;subst a;simp only[evs,seval,gK,Tr.many]
 |node l s r=>obtain⟨b,pl,pr,rfl,o,_⟩:=a;simp only[evs,seval,aI,o.ld1]
theorem ju{h:Heap}{t:Tr}{p:Option Nat}(a:At h t p):aj go 137 [pv p] h fun v h'=>v=.int .i64 t.sum∧h'=h:=by
 refine ab ?_;cases t with
 |nil=>have a:p=none:=a;subst a;simp only[evs,seval,gK,Tr.sum]
 |node l s r=>obtain⟨b,pl,pr,rfl,o,_⟩:=a;simp only[evs,seval,aI,o.ld1]
theorem cZ{h:Heap}{l r:Tr}{s:Int}{pl pr:Option Nat}(w:WF h)(al:At h l pl)(ar:At h r pr)(f:Fit (l.list++s::r.list)):
 aj go 268 [pv pl,.int .i64 s,pv pr] h fun v h'=>∃b,v=pv (some b)∧At h' (.node l s r) (some b)∧Fr [] h h':=by
 have l1:=Tr.many_eq l;have l2:=Tr.sum_eq l;have l3:=Tr.tall_nn l;have l4:=Tr.tall_le l;have r1:=Tr.many_eq r;have r2:=Tr.sum_eq r;have r3:=Tr.tall_nn r;have r4:=Tr.tall_le r;have fl:=f.left.nn;have fr:=Fit.nn (Fit.right (a:=l.list++[s]) (b:=r.list) (eV f));have hs:0≤s:=f.1 s iS;let⟨_,f2,f3⟩:=f;simp only[List.sum_append,List.sum_cons,List.length_append,List.length_cons]at f2 f3;rw[←l2]at fl f2;rw[←r2]at fr f2;refine ab ?_;simp only[evs,seval];refine aa (eZ al) ?_;rintro _ _ ⟨rfl,rfl⟩;simp only[evs,seval];apply aa (eZ ar);rintro _ _ ⟨rfl,rfl⟩;simp(disch:=omega) only[evs,seval,ah];apply aa (ju al);rintro _ _ ⟨rfl,rfl⟩;simp(disch:=omega) only[evs,seval,ah];apply aa (ju ar);rintro _ _ ⟨rfl,rfl⟩;simp(disch:=omega) only[evs,seval,ah];apply aa (cE al);rintro _ _ ⟨rfl,rfl⟩;simp only[evs,seval];apply aa (cE ar);rintro _ _ ⟨rfl,rfl⟩;simp(disch:=omega) only[evs,seval,ah];refine⟨_,rfl,?_,Fr.halloc w _⟩;exact⟨_,pl,pr,rfl,by simpa only[Tr.many,Tr.sum,Tr.tall]using Own.new w _,al.fr (Fr.halloc w _),ar.fr (Fr.halloc w _)⟩
theorem HO{h:Heap}{l r:Tr}{s:Int}{pl pr:Option Nat}{bl bs br:Nat}(w:WF h)(al:At h l pl)(ar:At h r pr)(f:Fit (l.list++s::r.list))
 (ol:Own h bl [pv pl]) (os:Own h bs [.int .i64 s]) (or:Own h br [pv pr]):
 aj go 295 [.ptr bl 0,.ptr bs 0,.ptr br 0] h fun v h'=>∃t p,v=pv p∧At h' t p∧t.list=l.list++s::r.list∧Fr [] h h':=by
 refine ab ?_;simp only[evs,seval,ol.ld1,os.ld1,or.ld1];refine aa (cZ w al ar f) ?_;rintro _ h' ⟨b,rfl,a,fr⟩;simp only[evs,seval];exact⟨_,_,rfl,a,rfl,fr⟩
theorem Fit.cons{x:Int}{l:List Int}(f:Fit (x::l)):Fit l:=Fit.right (a:=[x]) (eV f)
theorem HN{h:Heap}{l r:Tr}{s:Int}{pl pr:Option Nat}{bl bs br:Nat}(w:WF h)(al:At h l pl)(ar:At h r pr)(f:Fit (l.list++s::r.list))(ht:0<r.tall)
 (ol:Own h bl [pv pl]) (os:Own h bs [.int .i64 s]) (or:Own h br [pv pr]):
 aj go 296 [.ptr br 0,.ptr bl 0,.ptr bs 0] h fun v h'=>∃t p,v=pv p∧At h' t p∧t.list=l.list++s::r.list∧Fr [] h h':=by
 cases r with
 |nil=>simp[Tr.tall]at ht
 |node rl rs rr=>
  obtain⟨b,prl,prr,rfl,o,arl,arr⟩:=ar;have f1:Fit ((l.list++s::rl.list)++rs::rr.list):=by simpa[Tr.list]using f
  refine ab ?_;simp only[evs,seval,eff,or.ld1,aI,o.ld1];refine aa (cE arl) ?_;rintro _ _ ⟨rfl,rfl⟩;simp only[evs,seval,eff];simp only[evs,eff,or.ld1,aI,o.ld1];apply aa (cE arr);rintro _ _ ⟨rfl,rfl⟩;simp only[evs,seval,DF,eff];simp only[evs,seval,eff,ol.ld1,os.ld1,or.ld1,aI,o.ld1];split;rename_i hlt;cases rl with
  |nil=>have:=Tr.tall_nn rr;simp[Tr.tall]at hlt;omega
  |node ml ms mr=>
   obtain⟨b',pml,pmr,rfl,o',aml,amr⟩:=arl;have f2:Fit ((l.list++s::ml.list)++ms::(mr.list++rs::rr.list)):=by simpa[Tr.list]using f
   simp only[evs,eff,aI,o'.ld1];apply aa (cZ w al aml f2.left);rintro _ h1 ⟨b1,rfl,a1,fr1⟩;simp only[evs,seval,eff,(fr1.get or).ld1,aI,(fr1.get o).ld1,(fr1.get o').ld1];apply aa (cZ fr1.wf (amr.fr fr1) (arr.fr fr1) f2.right.cons);rintro _ h2 ⟨b2,rfl,a2,fr2⟩;simp only[evs,eff,aI];apply aa (cZ fr2.wf (a1.fr fr2) a2 f2);rintro _ h3 ⟨b3,rfl,a3,fr3⟩;have fr12:=fr1.then fr2;simp only[evs,seval,DF,eff,ol.ld1,os.ld1,or.ld1,o.ld1,o'.ld1,(fr1.get or).ld1,aI,(fr1.get o).ld1,(fr1.get o').ld1,(fr12.get o').ld1];exact⟨_,_,(aI _).symm,a3,by simp[Tr.list],fr12.then fr3⟩
  apply aa (cZ w al arl f1.left);rintro _ h1 ⟨b1,rfl,a1,fr1⟩;simp only[evs,seval,eff,(fr1.get or).ld1,aI,(fr1.get o).ld1];apply aa (cZ fr1.wf a1 (arr.fr fr1) f1);rintro _ h2 ⟨b2,rfl,a2,fr2⟩;simp only[evs,seval,DF,eff,ol.ld1,os.ld1,or.ld1,o.ld1,(fr1.get or).ld1,aI,(fr1.get o).ld1];exact⟨_,_,(aI _).symm,a2,by simp[Tr.list],fr1.then fr2⟩
theorem HM{h:Heap}{l r:Tr}{s:Int}{pl pr:Option Nat}{bl bs br:Nat}(w:WF h)(al:At h l pl)(ar:At h r pr)(f:Fit (l.list++s::r.list))(ht:0<l.tall)
 (ol:Own h bl [pv pl]) (os:Own h bs [.int .i64 s]) (or:Own h br [pv pr]):
 aj go 297 [.ptr bl 0,.ptr bs 0,.ptr br 0] h fun v h'=>∃t p,v=pv p∧At h' t p∧t.list=l.list++s::r.list∧Fr [] h h':=by
 cases l with
 |nil=>simp[Tr.tall]at ht
 |node ll ls lr=>
  obtain⟨b,pll,plr,rfl,o,all,alr⟩:=al;have f1:Fit (ll.list++ls::(lr.list++s::r.list)):=by simpa[Tr.list]using f
  refine ab ?_;simp only[evs,seval,eff,ol.ld1,aI,o.ld1];refine aa (cE alr) ?_;rintro _ _ ⟨rfl,rfl⟩;simp only[evs,seval,eff];simp only[evs,eff,ol.ld1,aI,o.ld1];apply aa (cE all);rintro _ _ ⟨rfl,rfl⟩;simp only[evs,seval,DF,eff];simp only[evs,seval,eff,ol.ld1,os.ld1,or.ld1,aI,o.ld1];split;rename_i hlt;cases lr with
  |nil=>have:=Tr.tall_nn ll;simp[Tr.tall]at hlt;omega
  |node ml ms mr=>
   obtain⟨b',pml,pmr,rfl,o',aml,amr⟩:=alr;have f2:Fit ((ll.list++ls::ml.list)++ms::(mr.list++s::r.list)):=by simpa[Tr.list]using f
   simp only[evs,eff,aI,o'.ld1];apply aa (cZ w all aml f2.left);rintro _ h1 ⟨b1,rfl,a1,fr1⟩;simp only[evs,seval,eff,(fr1.get os).ld1,(fr1.get or).ld1,aI,(fr1.get o').ld1];apply aa (cZ fr1.wf (amr.fr fr1) (ar.fr fr1) f2.right.cons);rintro _ h2 ⟨b2,rfl,a2,fr2⟩;simp only[evs,eff,aI];apply aa (cZ fr2.wf (a1.fr fr2) a2 f2);rintro _ h3 ⟨b3,rfl,a3,fr3⟩;have fr12:=fr1.then fr2;simp only[evs,seval,DF,eff,ol.ld1,os.ld1,or.ld1,o.ld1,o'.ld1,(fr1.get os).ld1,(fr1.get or).ld1,aI,(fr1.get o').ld1,(fr12.get o').ld1];exact⟨_,_,(aI _).symm,a3,by simp[Tr.list],fr12.then fr3⟩
  apply aa (cZ w alr ar f1.right.cons);rintro _ h1 ⟨b1,rfl,a1,fr1⟩;simp only[evs,eff,aI];apply aa (cZ fr1.wf (all.fr fr1) a1 f1);rintro _ h2 ⟨b2,rfl,a2,fr2⟩;simp only[evs,seval,DF,eff,ol.ld1,os.ld1,or.ld1,o.ld1,(fr1.get ol).ld1,aI,(fr1.get o).ld1];exact⟨_,_,(aI _).symm,a2,by simp[Tr.list],fr1.then fr2⟩
def JO(h:Heap)(l:List Int)(v:V):Prop:=∃t p,v=pv p∧At h t p∧t.list=l
theorem oZ{h:Heap}{l r:Tr}{s:Int}{pl pr:Option Nat}(w:WF h)(al:At h l pl)(ar:At h r pr)(f:Fit (l.list++s::r.list)):
 aj go 267 [pv pl,.int .i64 s,pv pr] h fun v h'=>∃t p,v=pv p∧At h' t p∧t.list=l.list++s::r.list∧Fr [] h h':=by
 have l1:=Tr.many_eq l;have l3:=Tr.tall_nn l;have l4:=Tr.tall_le l;have r1:=Tr.many_eq r;have r3:=Tr.tall_nn r;have r4:=Tr.tall_le r;have f3:=f.2.2;simp only[List.length_append,List.length_cons]at f3;obtain⟨h1,e1⟩:∃h1,h1=halloc h [pv pl]:=⟨_,rfl⟩;obtain⟨h2,e2⟩:∃h2,h2=halloc h1 [.int .i64 s]:=⟨_,rfl⟩;obtain⟨h3,e3⟩:∃h3,h3=halloc h2 [pv pr]:=⟨_,rfl⟩;have F1:Fr [] h h1:=e1▸Fr.halloc w _;have F2:Fr [] h1 h2:=e2▸Fr.halloc F1.wf _;have F3:Fr [] h2 h3:=e3▸Fr.halloc F2.wf _;have ol:Own h3 h.next [pv pl]:=F3.get (F2.get (e1▸Own.new w _));have os:Own h3 h1.next [.int .i64 s]:=F3.get (e2▸Own.new F1.wf _);have or:Own h3 h2.next [pv pr]:=e3▸Own.new F2.wf _;have F:=(F1.then F2).then F3;have al':=al.fr F;have ar':=ar.fr F;refine ab ?_;simp only[evs,seval,eff,←e1,←e2,←e3,or.ld1];refine aa (cE ar') ?_;rintro _ _ ⟨rfl,hh⟩;simp only[evs,seval,eff];subst hh;simp only[evs,seval,eff,ol.ld1];apply aa (cE al');rintro _ _ ⟨rfl,hh⟩;simp(disch:=omega) only[evs,seval,DF,eff,ah];subst hh;simp only[evs,seval,ol.ld1,or.ld1];split;rename_i hd;apply aa (HN F.wf al' ar' f oM ol os or);rintro _ h' ⟨t,p,rfl,a,e,fr⟩;simp only[evs,seval];exact⟨_,_,rfl,a,e,F.then fr⟩;split;apply aa (HM F.wf al' ar' f oM ol os or);rintro _ h' ⟨t,p,rfl,a,e,fr⟩;simp only[evs,seval];exact⟨_,_,rfl,a,e,F.then fr⟩;apply aa (HO F.wf al' ar' f ol os or);rintro _ h' ⟨t,p,rfl,a,e,fr⟩;simp only[evs,seval];exact⟨_,_,rfl,a,e,F.then fr⟩
theorem yF:∀(n:Nat){h:Heap}{l r:Tr}{s:Int}{pl pr:Option Nat},(l.many+r.many).toNat≤n→WF h→At h l pl→At h r pr→Fit (l.list++s::r.list)→
 aj go 222 [pv pl,.int .i64 s,pv pr] h fun v h'=>∃t p,v=pv p∧At h' t p∧t.list=l.list++s::r.list∧Fr [] h h':=by
 intro n;induction n with
 |zero=>
  intro h l r s pl pr hn w al ar f;cases l with
  |node ll ls lr=>have a:=Tr.many_nn ll;have b:=Tr.many_nn lr;have c:=Tr.many_nn r;simp only[Tr.many]at hn;omega
  |nil=>cases r with
   |node ll ls lr=>have a:=Tr.many_nn ll;have b:=Tr.many_nn lr;simp only[Tr.many]at hn;omega
   |nil=>refine ab ?_;simp only[evs,seval];refine aa (cE al) ?_;rintro _ _ ⟨rfl,rfl⟩;simp only[evs,seval];apply aa (cE ar);rintro _ _ ⟨rfl,rfl⟩;simp only[evs,seval,eff];simp(disch:=omega) only[ah,Tr.tall];simp only[evs,seval,(oM:¬((0:Int)+1<0))];apply aa (cE ar);rintro _ _ ⟨rfl,rfl⟩;simp only[evs,seval];apply aa (cE al);rintro _ _ ⟨rfl,rfl⟩;simp only[evs,seval,eff];simp(disch:=omega) only[ah,Tr.tall];simp only[evs,seval,(oM:¬((0:Int)+1<0))];apply aa (cZ w al ar f);rintro _ h' ⟨b,rfl,a,fr⟩;simp only[evs,seval];exact⟨_,_,rfl,a,rfl,fr⟩
 |succ n ih=>
  intro h l r s pl pr hn w al ar f;have l1:=Tr.many_eq l;have l3:=Tr.tall_nn l;have l4:=Tr.tall_le l;have r1:=Tr.many_eq r;have r3:=Tr.tall_nn r;have r4:=Tr.tall_le r;have f3:=f.2.2;simp only[List.length_append,List.length_cons]at f3;refine ab ?_;simp only[evs,seval];refine aa (cE al) ?_;rintro _ _ ⟨rfl,rfl⟩;simp only[evs,seval];apply aa (cE ar);rintro _ _ ⟨rfl,rfl⟩;simp(disch:=omega) only[evs,seval,eff,ah];split;rename_i hlt;cases l with
  |nil=>simp only[Tr.tall]at hlt;omega
  |node ll ls lr=>
   obtain⟨b,pll,plr,rfl,o,all,alr⟩:=al;have f1:Fit (ll.list++ls::(lr.list++s::r.list)):=by simpa[Tr.list]using f
   simp only[evs,seval,eff,aI,o.ld1];refine aa (ih (l:=lr) (r:=r) (by have a:=Tr.many_nn ll;simp only[Tr.many]at hn;omega) w alr ar f1.right.cons) ?_;rintro _ h1 ⟨t1,p1,rfl,a1,e1,fr1⟩;simp only[evs,eff];refine aa (oZ fr1.wf (all.fr fr1) a1 (by rw[e1];exact f1)) ?_;rintro _ h2 ⟨t2,p2,rfl,a2,e2,fr2⟩;simp only[evs,seval,DF,eff,o.ld1,(fr1.get o).ld1];exact⟨_,_,rfl,a2,by rw[e2,e1];simp[Tr.list],fr1.then fr2⟩
  apply aa (cE ar);rintro _ _ ⟨rfl,rfl⟩;simp only[evs,seval];apply aa (cE al);rintro _ _ ⟨rfl,rfl⟩;simp(disch:=omega) only[evs,seval,eff,ah];split;rename_i hlt;cases r with
  |nil=>simp only[Tr.tall]at hlt;omega
  |node rl rs rr=>
   obtain⟨b,prl,prr,rfl,o,arl,arr⟩:=ar;have f1:Fit ((l.list++s::rl.list)++rs::rr.list):=by simpa[Tr.list]using f
   simp only[evs,eff,aI,o.ld1];refine aa (ih (l:=l) (r:=rl) (by have a:=Tr.many_nn rr;simp only[Tr.many]at hn;omega) w al arl f1.left) ?_;rintro _ h1 ⟨t1,p1,rfl,a1,e1,fr1⟩;simp only[evs,seval,eff,(fr1.get o).ld1];refine aa (oZ fr1.wf a1 (arr.fr fr1) (by rw[e1];exact f1)) ?_;rintro _ h2 ⟨t2,p2,rfl,a2,e2,fr2⟩;simp only[evs,seval,DF,eff,o.ld1,(fr1.get o).ld1];exact⟨_,_,rfl,a2,by rw[e2,e1];simp[Tr.list],fr1.then fr2⟩
  apply aa (cZ w al ar f);rintro _ h' ⟨b,rfl,a,fr⟩;simp only[evs,seval];exact⟨_,_,rfl,a,rfl,fr⟩
theorem ke{h:Heap}{l r:Tr}{s:Int}{pl pr:Option Nat}(w:WF h)(al:At h l pl)(ar:At h r pr)(f:Fit (l.list++s::r.list)):
 aj go 222 [pv pl,.int .i64 s,pv pr] h fun v h'=>∃t p,v=pv p∧At h' t p∧t.list=l.list++s::r.list∧Fr [] h h':=
 yF _ (Nat.le_refl _) w al ar f
theorem Fit.sub{l m:List Int}(f:Fit l)(h:m.Sublist l):Fit m:=by
 let⟨a,b,c⟩:=f;have hs:∀{l m:List Int},m.Sublist l→(∀x∈l,0≤x)→m.sum≤l.sum:=by
  intro l m h;induction h with
  |slnil=>intro _;simp
  |cons x h ih=>intro a;have:=ih (fun y hy=>a y iX);have:=a x iS;simp;omega
  |cons_cons x h ih=>intro a;have:=ih (fun y hy=>a y iX);simp;omega
 exact⟨fun x hx=>a x (h.subset hx),by have:=hs h a;omega,by have:=h.length_le;omega⟩
theorem rS(a b:List Int)(s:Int)(k:Nat):(a++s::b).take (a.length+1+k)=a++s::b.take k:=by
 induction a with
 |nil=>simp[Nat.add_comm 1 k]
 |cons x a ih=>simp only[List.cons_append,List.length_cons,(oM:a.length+1+1+k=(a.length+1+k)+1),List.take_succ_cons,ih]
theorem BZ(a b:List Int)(s:Int)(k:Nat):(a++s::b).drop (a.length+1+k)=b.drop k:=by
 induction a with
 |nil=>simp[Nat.add_comm 1 k]
 |cons x a ih=>simp only[List.cons_append,List.length_cons,(oM:a.length+1+1+k=(a.length+1+k)+1),List.drop_succ_cons,ih]
theorem lR:∀{t:Tr}{h:Heap}{p:Option Nat}{at':Int},WF h→At h t p→Fit t.list→0≤at'→at'≤1000000→
 aj go 221 [pv p,.int .i64 at'] h fun v h'=>∃t1 t2 p1 p2,v=.tup [pv p1,pv p2]∧At h' t1 p1∧At h' t2 p2∧t1.list=t.list.take at'.toNat∧t2.list=t.list.drop at'.toNat∧Fr [] h h':=by
 intro t;induction t with
 |nil=>intro h p at' w a f h0 h1;have a:p=none:=a;subst a;refine ab ?_;simp only[evs,seval,gK];exact⟨.nil,.nil,none,none,rfl,rfl,rfl,by simp[Tr.list],by simp[Tr.list],Fr.refl w⟩
 |node l s r ihl ihr=>intro h p at' w a f h0 h1;obtain⟨b,pl,pr,rfl,o,al,ar⟩:=a;have l1:=Tr.many_eq l;have f3:=f.2.2;simp only[Tr.list,List.length_append,List.length_cons]at f3;have f1:Fit (l.list++s::r.list):=f;refine ab ?_;simp only[evs,seval,aI,o.ld1];refine aa (eZ al) ?_;rintro _ _ ⟨rfl,rfl⟩;simp only[evs,seval];split;rename_i hlt;simp(disch:=omega) only[evs,seval,ah,o.ld1];apply aa (ihr w ar f1.right.cons oM oM);rintro _ h1 ⟨t1,t2,p1,p2,rfl,a1,a2,e1,e2,fr1⟩;simp only[evs,seval,eff,(fr1.get o).ld1];refine aa (ke fr1.wf (al.fr fr1) a1 (by rw[e1];exact f1.sub ((List.Sublist.refl _).append ((List.take_sublist _ _).cons_cons _)))) ?_;rintro _ h2 ⟨t3,p3,rfl,a3,e3,fr2⟩;simp only[evs,seval,DF,eff,(fr1.get o).ld1];have e:at'.toNat=l.list.length+1+(at'-l.many-1).toNat:=oM;refine⟨t3,t2,p3,p2,rfl,a3,a2.fr fr2,?_,?_,fr1.then fr2⟩;rw[e3,e1,e,Tr.list,rS];rw[e2,e,Tr.list,BZ];rename_i hlt;simp only[evs,seval,o.ld1];apply aa (ihl w al f1.left h0 h1);rintro _ h1 ⟨t1,t2,p1,p2,rfl,a1,a2,e1,e2,fr1⟩;simp only[evs,seval,eff,(fr1.get o).ld1];refine aa (ke fr1.wf a2 (ar.fr fr1) (by rw[e2];exact f1.sub ((List.drop_sublist _ _).append (List.Sublist.refl _)))) ?_;rintro _ h2 ⟨t3,p3,rfl,a3,e3,fr2⟩;simp only[evs,seval,DF,eff,(fr1.get o).ld1];refine⟨t1,t3,p1,p3,rfl,a1.fr fr2,a3,?_,?_,fr1.then fr2⟩;rw[e1,Tr.list,List.take_append_of_le_length oM];rw[e3,e2,Tr.list,List.drop_append_of_le_length oM]
theorem yj{h:Heap}{l r:Tr}{pl pr:Option Nat}(w:WF h)(al:At h l pl)(ar:At h r pr)(f:Fit (l.list++r.list)):
 aj go 276 [pv pl,pv pr] h fun v h'=>∃t p,v=pv p∧At h' t p∧t.list=l.list++r.list∧Fr [] h h':=by
 cases r with
 |nil=>have a:pr=none:=ar;subst a;refine ab ?_;simp only[evs,seval,gK];exact⟨l,pl,rfl,al,by simp[Tr.list],Fr.refl w⟩
 |node rl rs rr=>
  have ar0:=ar;obtain⟨b,prl,prr,rfl,o,arl,arr⟩:=ar;refine ab ?_;simp only[evs,seval,aI];refine aa (lR (at':=1) w ar0 f.right oM oM) ?_;rintro _ h1 ⟨t1,t2,p1,p2,rfl,a1,a2,e1,e2,fr1⟩;cases t1 with
  |nil=>simp[Tr.list]at e1
  |node x y z=>
   obtain⟨b1,q1,q2,rfl,o1,_⟩:=a1;have ne:(Tr.node rl rs rr).list≠[]:=by simp[Tr.list]
   obtain⟨u,us,eu⟩:∃u us,(Tr.node rl rs rr).list=u::us:=by cases hh:(Tr.node rl rs rr).list with
    |nil=>exact absurd hh ne
    |cons u us=>exact⟨u,us,rfl⟩
   rw[eu]at e1 e2 f;simp[Tr.list]at e1 e2;have hx:x.list=[]∧y=u:=by
    cases hxx:x.list with
    |nil=>rw[hxx]at e1;simp at e1;exact⟨rfl,e1.1⟩
    |cons i j=>rw[hxx]at e1;have:=congrArg List.length e1;simp at this
   obtain⟨_,rfl⟩:=hx;simp only[evs,seval,aI,o1.ld1];refine aa (ke fr1.wf (al.fr fr1) a2 (by rw[e2];exact f)) ?_;rintro _ h2 ⟨t3,p3,rfl,a3,e3,fr2⟩;simp only[evs,seval];exact⟨t3,p3,rfl,a3,by rw[e3,e2,eu],fr1.then fr2⟩
theorem At.frb{h h':Heap}{b:Nat}{c:List V}(f:Fr [b] h h')(o:Own h b c)(hc:c.length≠6):∀{t:Tr}{p:Option Nat},At h t p→At h' t p
 |.nil,_,a=>a
 |.node l s r,_,⟨q,pl,pr,e,oq,al,ar⟩=>⟨q,pl,pr,e,f.own _ _ (by
  simp only[List.mem_singleton];rintro rfl;have:=oq.uniq o;subst this;simp at hc) oq,At.frb f o hc al,At.frb f o hc ar⟩
def Rp(h:Heap)(v:V)(l:List Int):Prop:=∃t p,v=.agg [pv p]∧At h t p∧t.list=l∧Fit l
theorem Rp.fr{h h':Heap}{v:V}{l:List Int}(a:Rp h v l)(f:Fr [] h h'):Rp h' v l:=by let⟨t,p,e,a,x⟩:=a;exact⟨t,p,e,a.fr f,x⟩
theorem Rp.frb{h h':Heap}{v:V}{l:List Int}{b:Nat}{c:List V}(a:Rp h v l)(f:Fr [b] h h')(o:Own h b c)(hc:c.length≠6):Rp h' v l:=by let⟨t,p,e,a,x⟩:=a;exact⟨t,p,e,a.frb f o hc,x⟩
theorem nX{h:Heap}{v:V}{l:List Int}(w:WF h)(a:Rp h v l):aj go 197 [v] h fun u h'=>u=.int .i64 l.length∧Fr [] h h':=by obtain⟨t,p,rfl,a,rfl,f⟩:=a;let⟨h1,e_h1,F_h1,o_h1⟩:=ao w [pv p];refine ab ?_;simp only[evs,seval,←e_h1,o_h1.ld1];refine aa (eZ (a.fr F_h1)) ?_;rintro _ _ ⟨rfl,hh⟩;simp only[evs,seval];subst hh;exact⟨by rw[Tr.many_eq],F_h1⟩
theorem jW{h:Heap}{v:V}{l:List Int}(w:WF h)(a:Rp h v l):aj go 77 [v] h fun u h'=>u=.int .i64 l.sum∧Fr [] h h':=by obtain⟨t,p,rfl,a,rfl,f⟩:=a;let⟨h1,e_h1,F_h1,o_h1⟩:=ao w [pv p];refine ab ?_;simp only[evs,seval,←e_h1,o_h1.ld1];refine aa (ju (a.fr F_h1)) ?_;rintro _ _ ⟨rfl,hh⟩;simp only[evs,seval];subst hh;exact⟨by rw[Tr.sum_eq],F_h1⟩
theorem BT{a b:List Int}{i:Nat}(h:i<a.length):(a++b).getD i 0=a.getD i 0:=by simp[List.getD,List.getElem?_append_left h]
theorem qu{a b:List Int}{i:Nat}(h:a.length≤i):(a++b).getD i 0=b.getD (i-a.length) 0:=by simp[List.getD,List.getElem?_append_right h]
theorem Hz:∀{t:Tr}{h:Heap}{p:Option Nat}{i:Int},At h t p→0≤i→i<t.list.length→Fit t.list→
 aj go 243 [pv p,.int .i64 i] h fun u h'=>h'=h∧∃b c,u=.ptr b 0∧Own h b c∧nth c 2=some (.int .i64 (t.list.getD i.toNat 0)):=by
 intro t;induction t with
 |nil=>intro h p i a h0 h1 f;simp[Tr.list]at h1;omega
 |node l s r ihl ihr=>intro h p i a h0 h1 f;obtain⟨b,pl,pr,rfl,o,al,ar⟩:=a;have l1:=Tr.many_eq l;have f3:=f.2.2;simp only[Tr.list,List.length_append,List.length_cons]at f3 h1;have f1:Fit (l.list++s::r.list):=f;refine ab ?_;simp only[evs,seval,aI,o.ld1];refine aa (eZ al) ?_;rintro _ _ ⟨rfl,rfl⟩;simp only[evs,seval];split;simp only[evs,seval,o.ld1];apply aa (ihl al h0 oM f1.left);rintro _ _ ⟨rfl,b',c',rfl,o',e'⟩;simp only[evs,seval];refine⟨b',c',rfl,o',?_⟩;rw[e',Tr.list,BT oM];split;simp(disch:=omega) only[evs,seval,ah,o.ld1];apply aa (ihr ar oM oM f1.right.cons);rintro _ _ ⟨rfl,b',c',rfl,o',e'⟩;simp only[evs,seval];refine⟨b',c',rfl,o',?_⟩;rw[e',Tr.list,qu oM,(oM:i.toNat-l.list.length=(i-l.many-1).toNat+1)];simp;refine⟨b,_,rfl,o,?_⟩;rw[bR,bR,bj,Tr.list,qu oM,(oM:i.toNat-l.list.length=0)];simp
theorem JS{h:Heap}{v:V}{l:List Int}{i:Int}(w:WF h)(a:Rp h v l):
 aj go 183 [v,.int .i64 i] h fun u h'=>(u=if 0≤i∧i<l.length then .tup [.int .i64 (l.getD i.toNat 0),.int .i64 0]else .tup [.int .i64 0,.int .i64 4])∧Fr [] h h':=by
 have a0:=a;obtain⟨t,p,rfl,a,rfl,f⟩:=a;let⟨h1,e_h1,F_h1,o_h1⟩:=ao w [pv p];have f3:=f.2.2;by_cases h0:i<0;refine ab ?_;simp only[evs,seval,←e_h1,h0];exact⟨by rw[if_neg oM],F_h1⟩;refine ab ?_;simp only[evs,seval,←e_h1,o_h1.ld,h0];apply aa (nX F_h1.wf (a0.fr F_h1));rintro _ h2 ⟨rfl,F2⟩;by_cases h3:(t.list.length:Int)≤i;simp only[evs,seval,h3];exact⟨by rw[if_neg oM],F_h1.then F2⟩;simp only[evs,seval,h3,(F2.get o_h1).ld1];apply aa (Hz (a.fr (F_h1.then F2)) oM oM f);rintro _ _ ⟨rfl,b,c,rfl,o,e⟩;simp only[evs,seval,o.ld1,e];exact⟨by rw[if_pos oM],F_h1.then F2⟩
theorem JP{h:Heap}{v:V}{l:List Int}{i:Int}(w:WF h)(a:Rp h v l):
 aj go 147 [v,.int .i64 i] h fun u h'=>(u=if 0≤i∧i≤l.length then .tup [.int .i64 (l.take i.toNat).sum,.int .i64 0]else .tup [.int .i64 0,.int .i64 4])∧Fr [] h h':=by
 have a0:=a;obtain⟨t,p,rfl,a,rfl,f⟩:=a;let⟨h1,e_h1,F_h1,o_h1⟩:=ao w [pv p];have f3:=f.2.2;by_cases h0:i<0
 ·refine ab ?_;simp only[evs,seval,←e_h1,h0];exact⟨by rw[if_neg oM],F_h1⟩
 ·refine ab ?_;simp only[evs,seval,←e_h1,o_h1.ld,h0];refine aa (nX F_h1.wf (a0.fr F_h1)) ?_;rintro _ h2 ⟨rfl,F2⟩;by_cases h3:(t.list.length:Int)<i
  ·simp only[evs,seval,h3];exact⟨by rw[if_neg oM],F_h1.then F2⟩
  ·simp only[evs,seval,h3,(F2.get o_h1).ld1];have F12:=F_h1.then F2;refine aA (fun k env hh=>hh=h2∧∃(x:Tr)(q:Option Nat)(j s:Int),env.get 7=some (pv q)∧env.get 1=some (.int .i64 j)∧env.get 6=some (.int .i64 s)∧At h2 x q∧Fit x.list∧
    0≤j∧j≤x.list.length∧0≤s∧s+x.list.sum≤4611686018427387904∧s+(x.list.take j.toNat).sum=(t.list.take i.toNat).sum∧k=x.list.length) t.list.length oM ?_ ?_
   ·refine⟨rfl,t,p,i,0,?_,?_,?_,a.fr F12,f,oM,oM,oM,by have:=f.2.1;omega,oM,rfl⟩;all_goals simp
   ·rintro k env hh ⟨rfl,x,q,j,s,g7,g1,g6,ax,fx,j0,j1,s0,s1,es,rfl⟩;cases x with
    |nil=>
     have ax:q=none:=ax;subst ax;simp only[evs,seval,g7,g6,gK];refine⟨?_,F12⟩;rw[if_pos oM];simp only[Tr.list,List.take_nil,List.sum_nil]at es;rw[←es];simp
    |node l' s' r'=>
     obtain⟨b,pl,pr,rfl,o,al,ar⟩:=ax;have l1:=Tr.many_eq l';have l2:=Tr.sum_eq l';have fl:=fx;simp only[Tr.list]at fl j1 s1 es;have nl:=fl.left.nn;have nr:=fl.right.cons.nn;have ns:0≤s':=fl.1 s' iS;have fl3:=fl.2.2;simp only[List.length_append,List.length_cons,List.sum_append,List.sum_cons]at fl3 j1 s1;by_cases hj:0<j
     ·simp only[evs,seval,g7,g1,aI,hj,o.ld1];apply aa (eZ al);rintro _ _ ⟨rfl,rfl⟩;simp only[evs,seval,eff,g7,g1,g6,aI,o.ld1];by_cases hk:j≤l'.many
      ·simp only[evs,seval,hk];refine rqn ⟨l'.list.length,by simp only[Tr.list,List.length_append,List.length_cons];omega,rfl,l',pl,j,s,iS,iX,iX,al,fl.left,j0,oM,s0,oM,?_,rfl⟩;rw[←es,List.take_append_of_le_length oM]
      ·simp only[evs,seval,hk];apply aa (ju al);rintro _ _ ⟨rfl,rfl⟩;simp(disch:=omega) only[evs,seval,DF,eff,ah,g7,g1,aI,o.ld1];refine rqn ⟨r'.list.length,by simp only[Tr.list,List.length_append,List.length_cons];omega,rfl,r',pr,j-(l'.many+1),s+(l'.sum+s'),iS,iS,iS,ar,fl.right.cons,oM,oM,oM,oM,?_,rfl⟩;rw[←es,(oM:j.toNat=l'.list.length+1+(j-(l'.many+1)).toNat),rS];simp only[List.sum_append,List.sum_cons];omega
     ·simp only[evs,seval,g7,g1,g6,aI,hj];refine⟨?_,F12⟩;rw[if_pos oM];rw[(oM:j.toNat=0)]at es;simp at es;rw[←es]
def aM:List Int→Int→Nat×Int
 |[],x=>(0,x)
 |s::l,x=>if x<s then(0,x)else((aM l (x-s)).1+1,(aM l (x-s)).2)
theorem oJ:∀(a b:List Int)(x:Int),0≤x→x<a.sum→(∀y∈a,0≤y)→aM (a++b) x=aM a x
 |[],b,x,h0,h1,hp=>by simp at h1;omega
 |s::a,b,x,h0,h1,hp=>by simp only[List.cons_append,aM];split;rfl;rw[oJ a b (x-s) oM (by simp at h1;omega) (fun y hy=>hp y iX)]
theorem mg:∀(a b:List Int)(x:Int),a.sum≤x→(∀y∈a,0≤y)→aM (a++b) x=(a.length+(aM b (x-a.sum)).1,(aM b (x-a.sum)).2)
 |[],b,x,h1,hp=>by simp
 |s::a,b,x,h1,hp=>by have hs:=hp s iS;have ha:=sum_nn (l:=a) fun y hy=>hp y iX;simp only[List.sum_cons]at h1;simp only[List.cons_append,aM];rw[if_neg oM,mg a b (x-s) oM (fun y hy=>hp y iX)];simp only[List.sum_cons,List.length_cons,(oM:x-s-a.sum=x-(s+a.sum))];ext<;>simp;omega
theorem Id{h:Heap}{v:V}{l:List Int}{x:Int}(w:WF h)(a:Rp h v l)(hx0:-9223372036854775808≤x)(hx1:x≤9223372036854775807):
 aj go 167 [v,.int .i64 x] h fun u h'=>(u=if 0≤x∧x<l.sum then .tup [.int .i64 (aM l x).1,.int .i64 (aM l x).2,.int .i64 0]else .tup [.int .i64 0,.int .i64 0,.int .i64 4])∧Fr [] h h':=by
 have a0:=a;obtain⟨t,p,rfl,a,rfl,f⟩:=a;let⟨h1,e_h1,F_h1,o_h1⟩:=ao w [pv p];have f3:=f.2.2;by_cases h0:x<0
 ·refine ab ?_;simp only[evs,seval,←e_h1,h0];exact⟨by rw[if_neg oM],F_h1⟩
 ·refine ab ?_;simp only[evs,seval,←e_h1,o_h1.ld,h0];refine aa (jW F_h1.wf (a0.fr F_h1)) ?_;rintro _ h2 ⟨rfl,F2⟩;by_cases h3:t.list.sum≤x
  ·simp only[evs,seval,h3];exact⟨by rw[if_neg oM],F_h1.then F2⟩
  ·simp only[evs,seval,h3,(F2.get o_h1).ld1];have F12:=F_h1.then F2;refine aA (fun k env hh=>hh=h2∧∃(y:Tr)(q:Option Nat)(i r:Int),env.get 7=some (pv q)∧env.get 4=some (.int .i64 i)∧env.get 5=some (.int .i64 r)∧At h2 y q∧Fit y.list∧
   0≤i∧i+y.list.length≤t.list.length∧0≤r∧r<y.list.sum∧i+(aM y.list r).1=(aM t.list x).1∧(aM y.list r).2=(aM t.list x).2∧k=y.list.length) t.list.length oM ?_ ?_
   ·refine⟨rfl,t,p,0,x,?_,?_,?_,a.fr F12,f,oM,oM,oM,oM,oM,rfl,rfl⟩;all_goals simp
   ·rintro k env hh ⟨rfl,y,q,i,r,g7,g4,g5,ay,fy,i0,i1,r0,r1,e1,e2,rfl⟩;cases y with
    |nil=>simp[Tr.list]at r1;omega
    |node l' s' r'=>
     obtain⟨b,pl,pr,rfl,o,al,ar⟩:=ay;have l1:=Tr.many_eq l';have l2:=Tr.sum_eq l';have fl:=fy;simp only[Tr.list]at fl i1 r1 e1 e2;have nl:=fl.left.nn;have nr:=fl.right.cons.nn;have ns:0≤s':=fl.1 s' iS;have fl3:=fl.2.2;have fl2:=fl.2.1;simp only[List.length_append,List.length_cons,List.sum_append,List.sum_cons]at fl3 i1 r1 fl2;simp only[evs,seval,g7,aI,o.ld1];apply aa (ju al);rintro _ _ ⟨rfl,rfl⟩;simp(disch:=omega) only[evs,seval,ah,g7,g4,g5,aI,o.ld1];by_cases hk:r<l'.sum
     ·simp only[evs,seval,hk];rw[oJ _ _ _ r0 oM fl.left.1]at e1 e2;refine rqn ⟨l'.list.length,by simp only[Tr.list,List.length_append,List.length_cons];omega,rfl,l',pl,i,r,iS,iX,iX,al,fl.left,i0,oM,r0,oM,e1,e2,rfl⟩
     ·rw[mg _ _ _ oM fl.left.1]at e1 e2;by_cases hm:r<l'.sum+s'
      ·simp only[evs,seval,hk,hm];apply aa (eZ al);rintro _ _ ⟨rfl,rfl⟩;simp(disch:=omega) only[evs,seval,ah,g5];refine⟨?_,F12⟩;rw[if_pos oM,←e1,←e2];simp only[aM,if_pos (oM:r-l'.list.sum<s'),l2,l1];simp
      ·simp only[evs,seval,hk,hm];apply aa (eZ al);rintro _ _ ⟨rfl,rfl⟩;simp(disch:=omega) only[evs,seval,ah,g7,aI,o.ld1];simp only[aM,if_neg (oM:¬r-l'.list.sum<s')]at e1 e2;refine rqn ⟨r'.list.length,by simp only[Tr.list,List.length_append,List.length_cons];omega,rfl,r',pr,i+(l'.many+1),r-(l'.sum+s'),iS,iS,iS,ar,fl.right.cons,oM,oM,oM,oM,?_,?_,rfl⟩
       ·grind
       ·grind
def Vals{α:Type}(f:α→V)(h:Heap)(v:V)(l:List α):Prop:=Sl h 1 v l.length (l.map f)
theorem Vals.fr{α:Type}{f:α→V}{h h':Heap}{v:V}{l:List α}(a:Vals f h v l)(r:Fr [] h h'):Vals f h' v l:=Sl.fr a r
theorem Vals.len{α:Type}{f:α→V}{h:Heap}{v:V}{l:List α}(a:Vals f h v l):aP .lenS [v]=some (.int .i64 l.length):=Sl.len a
theorem Vals.ix{α:Type}{f:α→V}{h:Heap}{v:V}{l:List α}(a:Vals f h v l)(k:IntKind)(i:Int)(h0:0≤i)(h1:i<l.length):
 ∃b o x,aP (.ixs 1) [v,.int k i]=some (.ptr b o)∧ag h b o=some (f x)∧l[i.toNat]? =some x:=by
 let⟨b,o,e,g,_⟩:=Sl.ix a k i h0 h1;have hi:i.toNat<l.length:=oM;refine⟨b,o,l[i.toNat],e,?_,by simp[hi]⟩;have:=g 0 oM;simpa[hi]using this
theorem Vals.upto{α:Type}{f:α→V}{h:Heap}{v:V}{l:List α}(a:Vals f h v l)(hv:v≠.sliceE)(k:IntKind)(i:Int)(h0:0≤i)(h1:i≤l.length):
 ∃v',aP (.sl none 1 false true false) [v,.int k i]=some v'∧Vals f h v' (l.take i.toNat):=by
 let⟨v',e,s⟩:=Sl.upto a oM hv k i h0 h1;refine⟨v',e,?_⟩;unfold Vals;rw[List.length_take,Nat.min_eq_left oM,List.map_take];simpa using s
theorem Vals.from'{α:Type}{f:α→V}{h:Heap}{v:V}{l:List α}(a:Vals f h v l)(hv:v≠.sliceE)(k:IntKind)(i:Int)(h0:0≤i)(h1:i≤l.length):
 ∃v',aP (.sl none 1 true false false) [v,.int k i]=some v'∧Vals f h v' (l.drop i.toNat):=by
 let⟨v',e,s⟩:=Sl.from' a oM hv k i h0 h1;refine⟨v',e,?_⟩;unfold Vals;rw[List.length_drop,List.map_drop];simpa using s
abbrev ou(h:Heap)(v:V)(l:List Int):Prop:=Vals (V.int .i64) h v l
abbrev Bools(h:Heap)(v:V)(l:List Bool):Prop:=Vals V.bool h v l
def chk:List Int→Int→Int
 |[],_=>0
 |s::l,t=>if s<0∨2305843009213693952<s then 12 else if 4611686018427387904-t<s then 13 else chk l (t+s)
theorem aG{α:Type}{l:List α}{i:Nat}{x:α}(h:l[i]? =some x):l.drop i=x::l.drop (i+1):=by
 have hi:i<l.length:=by grind
 rw[List.drop_eq_getElem_cons hi];congr 1;rw[List.getElem?_eq_getElem hi]at h;cases h;rfl
theorem rj{h:Heap}{v:V}{l:List Int}(w:WF h)(a:ou h v l)(hn:l.length≤1000000):
 aj go 273 [v] h fun u h'=>u=.int .i64 (if 4096<l.length then 3 else chk l 0)∧h'=h:=by
 by_cases hl:(4096:Int)<l.length;refine ab ?_;simp only[evs,seval,a.len,hl];rw[if_pos oM];refine ab ?_;simp only[evs,seval,a.len,hl];refine aA (fun k env hh=>hh=h∧∃(i:Nat)(t:Int),env.get 11=some (.int .i64 i)∧env.get 3=some (.int .i64 t)∧env.get 9=some v∧env.get 10=some (.int .i64 l.length)∧
  i≤l.length∧0≤t∧t≤4611686018427387904∧chk (l.drop i) t=chk l 0∧k=l.length-i) l.length oM ?_ ?_
 exact⟨rfl,0,0,iS,iS,iS,iS,oM,oM,oM,iS,rfl⟩;rintro k env hh ⟨rfl,i,t,g11,g3,g9,g10,hi,t0,t1,e,rfl⟩;by_cases hlt:(i:Int)<l.length;let⟨b,o,x,e1,e2,e3⟩:=a.ix .i64 i oM hlt;simp only[Int.toNat_natCast]at e3;rw[aG e3,chk]at e;by_cases h1:x<0;simp only[evs,seval,g11,g9,g10,hlt,e1,e2,h1];rw[if_neg oM,←e,if_pos (.inl h1)];by_cases h2:2305843009213693952<x;simp only[evs,seval,g11,g9,g10,hlt,e1,e2,h1,h2];rw[if_neg oM,←e,if_pos (.inr h2)];rw[if_neg oM]at e;by_cases h3:4611686018427387904-t<x;simp(disch:=omega) only[evs,seval,ah,g11,g3,g9,g10,hlt,e1,e2,h1,h2,h3];rw[if_neg oM,←e,if_pos h3];simp(disch:=omega) only[evs,seval,ah,g11,g3,g9,g10,hlt,e1,e2,h1,h2,h3];rw[if_neg h3]at e;refine rqn ⟨l.length-(i+1),oM,rfl,i+1,t+x,iS,iS,iX,iX,oM,oM,oM,e,rfl⟩;simp only[evs,seval,g11,g10,hlt];rw[if_neg oM,←e,List.drop_of_length_le oM,chk]
theorem wK{l:List Int}{i:Nat}{x:Int}(h:l[i]? =some x):l=l.take i++x::l.drop (i+1):=by rw[←aG h,List.take_append_drop]
theorem BS:∀(n:Nat){h:Heap}{v:V}{l:List Int},l.length≤n→WF h→ou h v l→Fit l→
 aj go 312 [v] h fun u h'=>∃t p,u=pv p∧At h' t p∧t.list=l∧Fr [] h h':=by
 intro n;induction n with
 |zero=>intro h v l hn w a f;have:l=[]:=List.length_eq_zero_iff.1 oM;subst this;have hz:=a.len;simp only[List.length_nil,Int.natCast_zero]at hz;refine ab ?_;simp only[evs,seval,hz];exact⟨.nil,none,rfl,rfl,rfl,Fr.refl w⟩
 |succ n ih=>intro h v l hn w a f;by_cases h0:(l.length:Int)=0;grind;have f3:=f.2.2;have hv:v≠.sliceE:=Sl.ne a oM;have hm:Int.tdiv (l.length:Int) 2=((l.length/2:Nat):Int):=(Int.ofNat_tdiv l.length 2).symm;obtain⟨m,em⟩:∃m:Nat,m=l.length/2:=⟨_,rfl⟩;rw[←em]at hm;let⟨v1,s1,i1⟩:=a.upto hv .i64 m oM oM;let⟨v2,s2,i2⟩:=a.from' hv .i64 (m+1) oM oM;let⟨b,o,x,e1,e2,e3⟩:=a.ix .i64 m oM oM;simp only[Int.toNat_natCast]at i1 i2 e3;rw[(oM:((m:Int)+1).toNat=m+1)]at i2;have el:=wK e3;have f':Fit (l.take m++x::l.drop (m+1)):=el▸f;refine ab ?_;simp(disch:=omega) only[evs,seval,eff,ah,a.len,h0,nT _ _ 2 dI,hm,s1];refine aa (ih oO w i1 f'.left) ?_;rintro _ h1 ⟨t1,p1,rfl,a1,et1,fr1⟩;let⟨b',o',x',e1',e2',e3'⟩:=(a.fr fr1).ix .i64 m oM oM;simp only[Int.toNat_natCast]at e3';rw[e1]at e1';cases e1';rw[e3]at e3';cases e3';simp(disch:=omega) only[evs,seval,eff,ah,e1,e2',s2];apply aa (ih oO fr1.wf (i2.fr fr1) f'.right.cons);rintro _ h2 ⟨t2,p2,rfl,a2,et2,fr2⟩;have fr12:=fr1.then fr2;let⟨b'',o'',x'',e1'',e2'',e3''⟩:=(a.fr fr12).ix .i64 m oM oM;simp only[Int.toNat_natCast]at e3'';rw[e1]at e1'';cases e1'';rw[e3]at e3'';cases e3'';simp only[evs,eff];refine aa (cZ fr2.wf (a1.fr fr2) a2 (by rw[et1,et2];exact f')) ?_;rintro _ h3 ⟨b3,rfl,a3,fr3⟩;simp only[evs,seval,DF,eff,e2,e2',e2''];exact⟨_,_,rfl,a3,by rw[Tr.list,et1,et2];exact el.symm,fr12.then fr3⟩
theorem DW{h:Heap}{v:V}{l:List Int}(w:WF h)(a:ou h v l)(f:Fit l):
 aj go 312 [v] h fun u h'=>∃t p,u=pv p∧At h' t p∧t.list=l∧Fr [] h h':=BS _ (Nat.le_refl _) w a f
theorem AC:∀(l:List Int)(t:Int),chk l t=0→0≤t→(∀x∈l,0≤x)∧t+l.sum≤4611686018427387904∨l=[]
 |[],t,_,_=>.inr rfl
 |s::l,t,h,h0=>by rw[chk]at h;by_cases h1:s<0∨2305843009213693952<s;omega;rw[if_neg h1]at h;by_cases h2:4611686018427387904-t<s;omega;rw[if_neg h2]at h;obtain⟨a,b⟩|rfl:=AC l (t+s) h oM;grind;grind
theorem Fit.of_chk{l:List Int}(h:chk l 0=0)(hl:l.length≤1000000):Fit l:=by obtain⟨a,b⟩|rfl:=AC l 0 h oM;exact⟨a,oM,oM⟩;exact⟨iS,iS,iS⟩
theorem JR{h:Heap}{v:V}{l:List Int}(w:WF h)(a:ou h v l)(hn:l.length≤1000000):
 aj go 301 [v] h fun u h'=>Fr [] h h'∧∃c e,u=.tup [.agg [c],.int .i64 e]∧c.one=true∧(e=if 4096<l.length then 3 else chk l 0)∧(e=0→Rp h' (.agg [c]) l):=by
 let⟨h1,e_h1,F_h1,o_h1⟩:=ao w [.nilp];by_cases he:(if 4096<l.length then 3 else chk l 0)=0;have hc:chk l 0=0:=by by_cases h4:4096<l.length;rw[if_pos h4]at he;omega;rw[if_neg h4]at he;exact he
 have f:=Fit.of_chk hc hn;refine ab ?_;simp only[evs,seval,←e_h1];refine aa (rj F_h1.wf (a.fr F_h1) hn) ?_;rintro _ _ ⟨rfl,hh⟩;subst hh;simp only[evs,seval,he];refine aa (DW F_h1.wf (a.fr F_h1) f) ?_;rintro _ h2 ⟨t,p,rfl,at',et,F2⟩;simp only[evs,seval];refine ai (c':=[pv p]) F2.wf (F2.get o_h1) rfl (by simp[av,fu,V.cells]) rfl ?_;rintro h3 o3 F3 n3;simp only[evs,seval,o3.ld];exact⟨(F_h1.then F2).fresh F3 w (Nat.le_refl _),_,_,rfl,fu _,rfl,fun _=>⟨t,p,rfl,at'.frb F3 (F2.get o_h1) iS,et,f⟩⟩;refine ab ?_;simp only[evs,seval,←e_h1];refine aa (rj F_h1.wf (a.fr F_h1) hn) ?_;rintro _ _ ⟨rfl,hh⟩;subst hh;simp only[evs,seval,he];apply stu F_h1.wf o_h1;rintro h3 o3 F3 n3;simp only[evs,seval,o3.ld];exact⟨F_h1.fresh F3 w (Nat.le_refl _),_,_,rfl,rfl,rfl,fun e=>absurd e he⟩
theorem Own.ne{h:Heap}{b b':Nat}{c c':List V}(o:Own h b c)(o':Own h b' c')(hc:c≠c'):b≠b':=by rintro rfl;exact hc (o.uniq o')
theorem Cv{h:Heap}{v:V}{l:List Int}{i:Int}(w:WF h)(a:Rp h v l):
 aj go 300 [v,.int .i64 i] h fun u h'=>Fr [] h h'∧if 0≤i∧i≤l.length then∃r1 r2,u=.tup [r1,r2,.int .i64 0]∧Rp h' r1 (l.take i.toNat)∧Rp h' r2 (l.drop i.toNat)
  else u=.tup [.agg [.nilp],.agg [.nilp],.int .i64 4]:=by
 have a0:=a;obtain⟨t,p,rfl,a,rfl,f⟩:=a;have f3:=f.2.2;let⟨h1,e_h1,F_h1,o_h1⟩:=ao w [pv p];let⟨h2,e_h2,F_h2,o_h2⟩:=ao F_h1.wf [.nilp];let⟨h3,e_h3,F_h3,o_h3⟩:=ao F_h2.wf [.nilp];have F13:=(F_h1.then F_h2).then F_h3;have o1:=F_h3.get (F_h2.get o_h1);have o2:=F_h3.get o_h2;have ne:h1.next≠h2.next:=by rw[e_h2];simp[jL]
 have b1:h.next≤h1.next:=F_h1.next;have b2:h.next≤h2.next:=(F_h1.then F_h2).next;by_cases h0:i<0;refine ab ?_;simp only[evs,seval,←e_h1,←e_h2,←e_h3,h0];refine stu F13.wf o2 ?_;rintro h5 o_h5 F_h5 n_h5;simp only[evs,seval];refine stu F_h5.wf (F_h5.own _ _ oO o_h3) ?_;rintro h6 o_h6 F_h6 n_h6;simp only[evs,seval,o_h6.ld,(F_h6.own _ _ oO o_h5).ld];rw[if_neg oM];exact⟨(F13.fresh F_h5 w b1).fresh F_h6 w b2,trivial⟩;refine ab ?_;simp only[evs,seval,←e_h1,←e_h2,←e_h3,o1.ld,h0];refine aa (nX F13.wf (a0.fr F13)) ?_;rintro _ h4 ⟨rfl,F4⟩;by_cases hi:(t.list.length:Int)<i;simp only[evs,seval,hi];apply stu F4.wf (F4.get o2);rintro h5 o_h5 F_h5 n_h5;simp only[evs,seval];apply stu F_h5.wf (F_h5.own _ _ oO (F4.get o_h3));rintro h6 o_h6 F_h6 n_h6;simp only[evs,seval,o_h6.ld,(F_h6.own _ _ oO o_h5).ld];rw[if_neg oM];exact⟨((F13.then F4).fresh F_h5 w b1).fresh F_h6 w b2,trivial⟩;simp only[evs,seval,hi,(F4.get o1).ld1];apply aa (lR F4.wf (a.fr (F13.then F4)) f oM oM);rintro _ h5 ⟨t1,t2,p1,p2,rfl,a1,a2,e1,e2,F5⟩;simp only[evs,seval];have F45:=F4.then F5;apply stu F5.wf (F45.get o2);rintro h6 o_h6 F_h6 n_h6;simp only[evs,seval];apply stu F_h6.wf (F_h6.own _ _ oO (F45.get o_h3));rintro h7 o_h7 F_h7 n_h7;simp only[evs,seval,o_h7.ld,(F_h7.own _ _ oO o_h6).ld];rw[if_pos oM];have c1:∀{t:Tr}{p:Option Nat},At h5 t p→At h7 t p:=fun x=>(x.frb F_h6 (F45.get o2) iS).frb F_h7 (F_h6.own _ _ oO (F45.get o_h3)) iS;exact⟨((F13.then F45).fresh F_h6 w b1).fresh F_h7 w b2,_,_,rfl,⟨t1,p1,rfl,c1 a1,e1,f.sub (List.take_sublist _ _)⟩,⟨t2,p2,rfl,c1 a2,e2,f.sub (List.drop_sublist _ _)⟩⟩
def jm(l m:List Int):Int:=if 4096<l.length+m.length then 3 else if 4611686018427387904-m.sum<l.sum then 13 else 0
theorem Ib{h:Heap}{v u:V}{l m:List Int}(w:WF h)(a:Rp h v l)(a':Rp h u m):
 aj go 302 [v,u] h fun z h'=>Fr [] h h'∧∃c,z=.tup [.agg [c],.int .i64 (jm l m)]∧c.one=true∧(jm l m=0→Rp h' (.agg [c]) (l++m)):=by
 have a0:=a;have a0':=a';obtain⟨t,p,rfl,a,rfl,f⟩:=a;obtain⟨t',p',rfl,a',rfl,f'⟩:=a';have f3:=f.2.2;have f3':=f'.2.2;have n:=f.nn;have n':=f'.nn;have f2:=f.2.1;have f2':=f'.2.1;let⟨h1,e_h1,F_h1,o_h1⟩:=ao w [pv p];let⟨h2,e_h2,F_h2,o_h2⟩:=ao F_h1.wf [pv p'];let⟨h3,e_h3,F_h3,o_h3⟩:=ao F_h2.wf [.nilp];have F13:=(F_h1.then F_h2).then F_h3;have o1:=F_h3.get (F_h2.get o_h1);have o2:=F_h3.get o_h2;have b2:h.next≤h2.next:=(F_h1.then F_h2).next;refine ab ?_;simp only[evs,seval,eff,←e_h1,←e_h2,←e_h3,o1.ld];refine aa (nX F13.wf (a0.fr F13)) ?_;rintro _ h4 ⟨rfl,F4⟩;simp only[evs,seval,eff,(F4.get o2).ld];apply aa (nX F4.wf (a0'.fr (F13.then F4)));rintro _ h5 ⟨rfl,F5⟩;simp(disch:=omega) only[evs,seval,DF,eff,ah,o1.ld,o2.ld,(F4.get o2).ld];have F45:=F4.then F5;by_cases c1:(4096:Int)<t.list.length+t'.list.length;simp only[evs,seval,c1];apply stu F5.wf (F45.get o_h3);rintro h6 o_h6 F_h6 n_h6;simp only[evs,seval,o_h6.ld];have e:jm t.list t'.list=3:=by unfold jm;rw[if_pos oM]
 rw[e];exact⟨(F13.then F45).fresh F_h6 w b2,_,rfl,rfl,iS⟩;simp only[evs,seval,eff,c1,(F45.get o1).ld];apply aa (jW F5.wf (a0.fr (F13.then F45)));rintro _ h6 ⟨rfl,F6⟩;have F46:=F45.then F6;simp only[evs,seval,eff,(F46.get o2).ld];apply aa (jW F6.wf (a0'.fr (F13.then F46)));rintro _ h7 ⟨rfl,F7⟩;have F47:=F46.then F7;simp(disch:=omega) only[evs,seval,DF,eff,ah,(F45.get o1).ld,(F46.get o2).ld,(F45.get o2).ld];by_cases c2:4611686018427387904-t'.list.sum<t.list.sum;simp only[evs,seval,c2];apply stu F7.wf (F47.get o_h3);rintro h8 o_h8 F_h8 n_h8;simp only[evs,seval,o_h8.ld];have e:jm t.list t'.list=13:=by unfold jm;rw[if_neg oM,if_pos c2]
 rw[e];exact⟨(F13.then F47).fresh F_h8 w b2,_,rfl,rfl,iS⟩;simp only[evs,seval,c2,(F47.get o1).ld1,(F47.get o2).ld1];have ff:Fit (t.list++t'.list):=⟨fun x hx=>by obtain y|y:=List.mem_append.1 hx;exact f.1 x y;exact f'.1 x y,by rw[List.sum_append];omega,by rw[List.length_append];omega⟩
 apply aa (yj F7.wf (a.fr (F13.then F47)) (a'.fr (F13.then F47)) ff);rintro _ h8 ⟨t2,p2,rfl,a2,e2,F8⟩;simp only[evs,seval];apply stu F8.wf ((F47.then F8).get o_h3);rintro h9 o_h9 F_h9 n_h9;simp only[evs,seval,o_h9.ld];have e:jm t.list t'.list=0:=by unfold jm;rw[if_neg oM,if_neg c2]
 rw[e];exact⟨(F13.then (F47.then F8)).fresh F_h9 w b2,_,rfl,fu _,fun _=>⟨t2,p2,rfl,a2.frb F_h9 ((F47.then F8).get o_h3) iS,e2,ff⟩⟩
def kE(l:List Int)(i size:Int):Int:=if 0≤i∧i<l.length then if size<0∨2305843009213693952<size then 12 else if 4611686018427387904-(l.sum-l.getD i.toNat 0)<size then 13 else 0 else 4
theorem zP:∀(l:List Int)(i:Nat)(x:Int),i<l.length→(l.set i x).sum=l.sum-l.getD i 0+x
 |y::l,0,x,_=>by simp;omega
 |y::l,i+1,x,h=>by have:=zP l i x (eV h);simp at this⊢;omega
theorem Bg:∀(l:List Int)(i:Nat)(x:Int),i<l.length→l.set i x=l.take i++x::l.drop (i+1):=by intro l i x h;rw[List.set_eq_take_append_cons_drop,if_pos h]
theorem Fit.set{l:List Int}(f:Fit l){i:Nat}{x:Int}(hi:i<l.length)(h0:0≤x)(h1:x≤4611686018427387904-(l.sum-l.getD i 0)):Fit (l.set i x):=by refine⟨fun y hy=>?_,?_,?_⟩;obtain a|a:=List.mem_or_eq_of_mem_set hy;exact f.1 y a;omega;rw[zP _ _ _ hi];omega;rw[List.length_set];exact f.2.2
theorem Aq:∀{l:List Int}{i:Nat},(∀x∈l,0≤x)→l.getD i 0≤l.sum∧0≤l.getD i 0
 |[],i,_=>by simp
 |y::l,0,h=>by have:=sum_nn (l:=l) fun z hz=>h z iX;have:=h y iS;simp;omega
 |y::l,i+1,h=>by have:=Aq (l:=l) (i:=i) fun z hz=>h z iX;have:=h y iS;simp at *;omega
theorem HZ{h:Heap}{v:V}{l:List Int}{i size:Int}(w:WF h)(a:Rp h v l)(s0:-9223372036854775808≤size)(s1:size≤9223372036854775807):
 aj go 164 [v,.int .i64 i,.int .i64 size] h fun u h'=>Fr [] h h'∧∃c,u=.tup [.agg [c],.int .i64 (kE l i size)]∧c.one=true∧(kE l i size=0→Rp h' (.agg [c]) (l.set i.toNat size)):=by
 have a0:=a;obtain⟨t,p,rfl,a,rfl,f⟩:=a;have f3:=f.2.2;have f2:=f.2.1;have n:=f.nn;have gd:=Aq (i:=i.toNat) f.1;let⟨h1,e_h1,F_h1,o_h1⟩:=ao w [pv p];let⟨h2,e_h2,F_h2,o_h2⟩:=ao F_h1.wf [.nilp];have F12:=F_h1.then F_h2;have o1:=F_h2.get o_h1;have b1:h.next≤h1.next:=F_h1.next;refine ab ?_;simp only[evs,↓reduceIte,Nat.reduceEqDiff,Nat.reduceAdd,←e_h1,←e_h2,o1.ld];refine aa (JS F12.wf (a0.fr F12)) ?_;rintro _ h3 ⟨rfl,F3⟩;by_cases hi:0≤i∧i<t.list.length;rw[if_pos hi];by_cases c1:size<0;simp only[evs,↓reduceIte,Nat.reduceEqDiff,c1];apply stu F3.wf (F3.get o_h2);rintro h4 o_h4 F_h4 n_h4;simp only[evs,↓reduceIte,Nat.reduceEqDiff,o_h4.ld];have e:kE t.list i size=12:=by unfold kE;rw[if_pos hi,if_pos (.inl c1)]
 rw[e];exact⟨(F12.then F3).fresh F_h4 w b1,_,rfl,rfl,iS⟩;by_cases c2:2305843009213693952<size;simp only[evs,↓reduceIte,Nat.reduceEqDiff,c1,c2];apply stu F3.wf (F3.get o_h2);rintro h4 o_h4 F_h4 n_h4;simp only[evs,↓reduceIte,Nat.reduceEqDiff,o_h4.ld];have e:kE t.list i size=12:=by unfold kE;rw[if_pos hi,if_pos (.inr c2)]
 rw[e];exact⟨(F12.then F3).fresh F_h4 w b1,_,rfl,rfl,iS⟩;simp only[evs,↓reduceIte,Nat.reduceEqDiff,c1,c2,(F3.get o1).ld];apply aa (jW F3.wf (a0.fr (F12.then F3)));rintro _ h4 ⟨rfl,F4⟩;have F34:=F3.then F4;by_cases c3:4611686018427387904-(t.list.sum-t.list.getD i.toNat 0)<size;simp(disch:=omega) only[evs,↓reduceIte,Nat.reduceEqDiff,ah,c3];apply stu F4.wf (F34.get o_h2);rintro h5 o_h5 F_h5 n_h5;simp only[evs,↓reduceIte,Nat.reduceEqDiff,o_h5.ld];have e:kE t.list i size=13:=by unfold kE;rw[if_pos hi,if_neg oM,if_pos c3]
 rw[e];exact⟨(F12.then F34).fresh F_h5 w b1,_,rfl,rfl,iS⟩;simp(disch:=omega) only[evs,↓reduceIte,Nat.reduceEqDiff,ah,c3,(F34.get o1).ld1];apply aa (lR F4.wf (a.fr (F12.then F34)) f oM oM);rintro _ h5 ⟨t1,t2,p1,p2,rfl,a1,a2,e1,e2,F5⟩;simp only[evs,↓reduceIte];refine aa (lR F5.wf a2 (by rw[e2];exact f.sub (List.drop_sublist _ _)) oM oM) ?_;rintro _ h6 ⟨t3,t4,p3,p4,rfl,a3,a4,e3,e4,F6⟩;simp only[evs,↓reduceIte,Nat.reduceEqDiff];have hin:i.toNat<t.list.length:=oM;have ff:=f.set hin (oM:0≤size) oM;have el:t1.list++size::t4.list=t.list.set i.toNat size:=by rw[e1,e4,e2,Bg _ _ _ hin,(iR:(1:Int).toNat=1),List.drop_drop]
 refine aa (ke F6.wf (a1.fr F6) a4 (by rw[el];exact ff)) ?_;rintro _ h7 ⟨t5,p5,rfl,a5,e5,F7⟩;simp only[evs,↓reduceIte,Nat.reduceEqDiff];have F37:=((F34.then F5).then F6).then F7;apply stu F7.wf (F37.get o_h2);rintro h8 o_h8 F_h8 n_h8;simp only[evs,↓reduceIte,Nat.reduceEqDiff,o_h8.ld];have e:kE t.list i size=0:=by unfold kE;rw[if_pos hi,if_neg oM,if_neg c3]
 rw[e];exact⟨(F12.then F37).fresh F_h8 w b1,_,rfl,fu _,fun _=>⟨t5,p5,rfl,a5.frb F_h8 (F37.get o_h2) iS,e5.trans el,ff⟩⟩;rw[if_neg hi];simp only[evs,↓reduceIte,Nat.reduceEqDiff];simp only[evs,↓reduceIte,(oM:¬((4:Int)=0))];apply stu F3.wf (F3.get o_h2);rintro h4 o_h4 F_h4 n_h4;simp only[evs,↓reduceIte,Nat.reduceEqDiff,o_h4.ld];have e:kE t.list i size=4:=by unfold kE;rw[if_neg hi]
 rw[e];exact⟨(F12.then F3).fresh F_h4 w b1,_,rfl,rfl,iS⟩
def ofE(m:List Int):Int:=if 4096<m.length then 3 else chk m 0
def rB(l:List Int)(i:Int)(m:List Int):Int:=if 0≤i∧i≤l.length then if ofE m=0 then jm l m else ofE m else 4
theorem H4{h:Heap}{v u:V}{l m:List Int}{i:Int}(w:WF h)(a:Rp h v l)(am:ou h u m)(hm:m.length≤1000000):
 aj go 274 [v,.int .i64 i,u] h fun z h'=>Fr [] h h'∧∃c,z=.tup [.agg [c],.int .i64 (rB l i m)]∧c.one=true∧(rB l i m=0→Rp h' (.agg [c]) (l.take i.toNat++m++l.drop i.toNat)):=by
 have a0:=a;obtain⟨t,p,rfl,a,rfl,f⟩:=a;let⟨h1,e_h1,F_h1,o_h1⟩:=ao w [pv p];let⟨h2,e_h2,F_h2,o_h2⟩:=ao F_h1.wf [.nilp];have F12:=F_h1.then F_h2;have o1:=F_h2.get o_h1;have b1:h.next≤h1.next:=F_h1.next;refine ab ?_;simp only[evs,↓reduceIte,Nat.reduceEqDiff,Nat.reduceAdd,←e_h1,←e_h2,o1.ld];refine aa (Cv F12.wf (a0.fr F12)) ?_;rintro _ h3 ⟨F3,hu⟩;have F13:=F12.then F3;have b3:h.next≤h3.next:=F13.next;by_cases hi:0≤i∧i≤t.list.length;rw[if_pos hi]at hu;obtain⟨r1,r2,rfl,ra,rb⟩:=hu;obtain⟨t1,p1,rfl,a1,e1,f1⟩:=ra;obtain⟨t2,p2,rfl,a2,e2,f2⟩:=rb;let⟨h4,e_h4,F_h4,o_h4⟩:=ao F3.wf [.nilp];let⟨h5,e_h5,F_h5,o_h5⟩:=ao F_h4.wf [.nilp];have F45:=F_h4.then F_h5;have ne:h3.next≠h4.next:=by rw[e_h4];simp[jL]
 simp only[evs,↓reduceIte,Nat.reduceEqDiff,←e_h4,←e_h5];apply stu F45.wf (F_h5.get o_h4);rintro h6 o_h6 F_h6 n_h6;simp only[evs,↓reduceIte];apply stu F_h6.wf (F_h6.own _ _ oO o_h5);rintro h7 o_h7 F_h7 n_h7;simp only[evs,↓reduceIte,Nat.reduceEqDiff];have oa:=F_h7.own _ _ oO o_h6;have b4:h.next≤h4.next:=Nat.le_trans b3 F_h4.next;have F17:=((F13.then F45).fresh F_h6 w b3).fresh F_h7 w b4;have keep:∀{b:Nat}{c:List V},Own h3 b c→Own h7 b c:=fun o=>F_h7.own _ _ (by have:=o.lt F3.wf;have:=F_h4.next;simp;omega) (F_h6.own _ _ (by have:=o.lt F3.wf;simp;omega) (F45.get o));have F37:Fr [] h3 h7:=⟨by have:=F45.next;omega,F_h7.wf,fun _ _ _ o=>keep o,fun x c _ o=>F_h7.pl _ _ (by have:=o.own.lt F3.wf;have:=F_h4.next;simp;omega) (F_h6.pl _ _ (by have:=o.own.lt F3.wf;simp;omega) (F45.pl _ _ iS o)),fun x k hk o=>F_h7.lp _ _ hk (F_h6.lp _ _ hk (F45.lp _ _ hk o)),fun x c r=>F_h7.ro _ _ (F_h6.ro _ _ (F45.ro _ _ r))⟩;have or:=F37.get (F3.get o_h2);have ob:=F37.get (F3.get o1);apply aa (JR F_h7.wf (am.fr F17) hm);rintro _ h8 ⟨F8,c0,e,rfl,hc0,ee,hr⟩;change e=ofE m at ee;let⟨h9,e_h9,F_h9,o_h9⟩:=ao F8.wf [.nilp];simp only[evs,↓reduceIte,←e_h9];apply ai (c':=[c0]) F_h9.wf o_h9 rfl (by simp[av,V.cells,hc0]) rfl;rintro h10 o10 F10 n10;have b8:h.next≤h8.next:=(F17.then F8).next;have F910:Fr [] h8 h10:=F_h9.fresh F10 F8.wf (Nat.le_refl _);have F110:=(F17.then F8).then F910;have F710:=F8.then F910;by_cases h0:e=0;have em:ofE m=0:=oM;subst h0;have hrr:=hr rfl;let⟨t3,p3,q3,a3,e3,f3⟩:=hrr;cases q3;simp only[evs,↓reduceIte,Nat.reduceEqDiff,(F710.get ob).ld,o10.ld];apply aa (Ib F910.wf (a0.fr F110) (Rp.fr (l:=m) ⟨t3,p3,rfl,a3,e3,f3⟩ F910));rintro _ h11 ⟨F11,c',rfl,hc',hj⟩;have ei:rB t.list i m=jm t.list m:=by unfold rB;rw[if_pos hi,if_pos em]
 rw[ei];let⟨h12,e_h12,F_h12,o_h12⟩:=ao F11.wf [.nilp];simp only[evs,←e_h12];apply ai (c':=[c']) F_h12.wf o_h12 rfl (by simp[av,V.cells,hc']) rfl;rintro h13 o13 F13' n13;have F1113:Fr [] h11 h13:=F_h12.fresh F13' F11.wf (Nat.le_refl _);have F713:=(F710.then F11).then F1113;have F1013:=F11.then F1113;by_cases h1:jm t.list m=0;simp only[evs,↓reduceIte,Nat.reduceEqDiff,eff,h1,(F713.get oa).ld1,(F1013.get o10).ld1];let⟨t9,p9,q9,a9,e9,f9⟩:=hj h1;have ff:Fit (t.list.take i.toNat++m++t.list.drop i.toNat):=by
  let⟨x1,x2,x3⟩:=f9;have hsum:(t.list.take i.toNat).sum+(t.list.drop i.toNat).sum=t.list.sum:=by rw[←List.sum_append,List.take_append_drop]
  have hlen:(t.list.take i.toNat).length+(t.list.drop i.toNat).length=t.list.length:=by grind
  refine⟨fun y hy=>?_,?_,?_⟩;apply x1 y;simp only[List.mem_append]at hy⊢;obtain(y1|y1)|y1:=hy;grind;exact .inr y1;grind;grind;grind
 have F313:=F37.then F713;refine aa (yj F1113.wf (a1.fr F313) (a3.fr (F910.then F1013)) (by rw[e1,e3];exact ff.left)) ?_;rintro _ h14 ⟨t4,p4,rfl,a4,e4,F14⟩;simp only[evs,↓reduceIte,Nat.reduceEqDiff,eff,((F713.then F14).get o_h7).ld1];refine aa (yj F14.wf a4 (a2.fr (F313.then F14)) (by rw[e4,e1,e3,e2];exact ff)) ?_;rintro _ h15 ⟨t5,p5,rfl,a5,e5,F15⟩;simp only[evs,↓reduceIte,Nat.reduceEqDiff,eff];have F715:=(F713.then F14).then F15;apply stu F15.wf (F715.get or);rintro h16 o_h16 F_h16 n_h16;simp only[evs,↓reduceIte,Nat.reduceEqDiff,Nat.reduceAdd,DF,eff,Nat.reduceSub,o_h16.ld,(F713.get oa).ld1,(F1013.get o10).ld1,(F713.get o_h7).ld1,((F713.then F14).get o_h7).ld1];exact⟨(F17.then F715).fresh F_h16 w b1,_,rfl,fu _,fun _=>⟨t5,p5,rfl,a5.frb F_h16 (F715.get or) iS,by rw[e5,e4,e1,e3,e2],ff⟩⟩;simp only[evs,↓reduceIte,Nat.reduceEqDiff,h1];apply stu F1113.wf (F713.get or);rintro h16 o_h16 F_h16 n_h16;simp only[evs,↓reduceIte,Nat.reduceEqDiff,o_h16.ld];exact⟨(F17.then F713).fresh F_h16 w b1,_,rfl,rfl,by simp[]⟩;simp only[evs,↓reduceIte,Nat.reduceEqDiff,h0];apply stu F910.wf (F710.get or);rintro h16 o_h16 F_h16 n_h16;simp only[evs,↓reduceIte,Nat.reduceEqDiff,o_h16.ld];have ei:rB t.list i m=e:=by unfold rB;rw[if_pos hi,if_neg oM,ee]
 rw[ei];exact⟨F110.fresh F_h16 w b1,_,rfl,rfl,by simp[h0]⟩;rw[if_neg hi]at hu;subst hu;let⟨h4,e_h4,F_h4,o_h4⟩:=ao F3.wf [.nilp];let⟨h5,e_h5,F_h5,o_h5⟩:=ao F_h4.wf [.nilp];have F45:=F_h4.then F_h5;have ne:h3.next≠h4.next:=by rw[e_h4];simp[jL]
 simp only[evs,↓reduceIte,Nat.reduceEqDiff,←e_h4,←e_h5];apply stu F45.wf (F_h5.get o_h4);rintro h6 o_h6 F_h6 n_h6;simp only[evs,↓reduceIte];apply stu F_h6.wf (F_h6.own _ _ oO o_h5);rintro h7 o_h7 F_h7 n_h7;simp only[evs,↓reduceIte,Nat.reduceEqDiff];simp only[evs,↓reduceIte,(oM:¬((4:Int)=0))];have b4:h.next≤h4.next:=Nat.le_trans b3 F_h4.next;have F17:=((F13.then F45).fresh F_h6 w b3).fresh F_h7 w b4;have keep:∀{b:Nat}{c:List V},Own h3 b c→Own h7 b c:=fun o=>F_h7.own _ _ (by have:=o.lt F3.wf;have:=F_h4.next;simp;omega) (F_h6.own _ _ (by have:=o.lt F3.wf;simp;omega) (F45.get o));have or:=keep (F3.get o_h2);apply stu F_h7.wf or;rintro h16 o_h16 F_h16 n_h16;simp only[evs,↓reduceIte,Nat.reduceEqDiff,o_h16.ld];have ei:rB t.list i m=4:=by unfold rB;rw[if_neg hi]
 rw[ei];exact⟨F17.fresh F_h16 w b1,_,rfl,rfl,iS⟩
def sp(s:Int×Int):List V:=[.int .i64 s.1,.int .i64 s.2]
theorem dO(s:Int×Int):(sp s).length=2:=rfl
theorem zQ(s:Int×Int):av (sp s)=true:=rfl
abbrev Sp(h:Heap)(v:V)(L:List (Int×Int)):Prop:=Recs sp 2 h v L
def SOK:List (Int×Int)→Int→Prop
 |[],_=>True
 |s::L,last=>last<s.1∧0≤s.1∧s.1<s.2∧s.2≤1073741824∧SOK L s.2
def inS(L:List (Int×Int))(i:Int):Bool:=L.any fun s=>decide (s.1≤i)&&decide (i<s.2)
theorem Sp.ix{h:Heap}{v:V}{L:List (Int×Int)}(a:Sp h v L)(i:Nat)(h1:(i:Int)<L.length):
 ∃b o s,aP (.ixs 2) [v,.int .i64 i]=some (.ptr b o)∧ag h b o=some (.int .i64 s.1)∧ag h b (o+1)=some (.int .i64 s.2)∧ak h b o 2=some [.int .i64 s.1,.int .i64 s.2]∧L[i]? =some s:=by
 let⟨b,o,s,e,g,g2,e3⟩:=Recs.ix dO a .i64 i oM h1;exact⟨b,o,s,e,by simpa[sp]using g 0 oM,by simpa[sp]using g 1 oM,g2,by simpa using e3⟩
def SpF(h:Heap)(v:V)(L:List (Int×Int)):Prop:=(v=.nils∧L=[])∨∃b,v=.slice b 0 L.length L.length∧Own h b (L.flatMap sp)∧0<L.length
theorem SpF.slc{h:Heap}{v:V}{L:List (Int×Int)}(a:SpF h v L):Sp h v L:=by obtain⟨rfl,rfl⟩|⟨b,rfl,o,_⟩:=a;exact Recs.nil;exact Sl.lit o (aE dO L)
theorem SpF.fr{h h':Heap}{v:V}{L:List (Int×Int)}(a:SpF h v L)(f:Fr [] h h'):SpF h' v L:=by obtain x|⟨b,e,o,p⟩:=a;exact .inl x;exact .inr ⟨b,e,f.get o,p⟩
theorem SpF.frb{h h':Heap}{v:V}{L:List (Int×Int)}{b:Nat}{c:List V}(a:SpF h v L)(f:Fr [b] h h')(o:Own h b c)(hc:∀L:List (Int×Int),0<L.length→c≠L.flatMap sp):SpF h' v L:=by obtain x|⟨q,e,oq,p⟩:=a;exact .inl x;refine .inr ⟨q,e,f.own _ _ ?_ oq,p⟩;simp only[List.mem_singleton];rintro rfl;exact hc L p (o.uniq oq)
theorem SpF.one{h:Heap}{v:V}{L:List (Int×Int)}(a:SpF h v L):v.one=true:=by obtain⟨rfl,_⟩|⟨b,rfl,_⟩:=a<;>rfl
theorem SpF.noint{h:Heap}{v:V}{L:List (Int×Int)}(a:SpF h v L):∀k n,v≠.int k n:=by obtain⟨rfl,_⟩|⟨b,rfl,_⟩:=a<;>simp
theorem Bu{c:List V}(hc:∀x∈c,∀k n,x≠.int k n):∀L:List (Int×Int),0<L.length→c≠L.flatMap Lay.sp:=by
 intro L p e;cases L with
 |nil=>simp at p
 |cons s L=>exact hc (.int .i64 s.1) (by rw[e];simp[Lay.sp]) _ _ rfl
theorem Sp.frb{h h':Heap}{v:V}{L:List (Int×Int)}{b:Nat}{c c':List V}(a:Sp h v L)(f:Fr [b] h h')(o:Own h b c)(o':Own h' b c')(hc:∀x∈c,∀k n,x≠.int k n)(hl:c'.length=c.length):Sp h' v L:=by
 let⟨e1,e2⟩:=a;have main:∀(bb oo:Nat),(∃d,Own h bb d∧oo+L.length*2≤d.length∧L.flatMap sp=(d.drop oo).take (L.length*2))→∃d,Own h' bb d∧oo+L.length*2≤d.length∧L.flatMap sp=(d.drop oo).take (L.length*2):=by
  rintro bb oo ⟨d,od,h1,h2⟩;by_cases e:bb=b;subst e;have:=od.uniq o;subst this;have hL:L=[]:=by
   cases L with
   |nil=>rfl
   |cons s L=>
    exfalso;have hm:V.int .i64 s.1∈d:=by
     have:V.int .i64 s.1∈(s::L).flatMap sp:=by simp[sp]
     rw[h2]at this;exact List.mem_of_mem_drop (List.mem_of_mem_take this)
    exact hc _ hm _ _ rfl
  subst hL;exact⟨c',o',by simpa[hl]using h1,iS⟩;exact⟨d,f.own _ _ (eV e) od,h1,h2⟩
 refine⟨e1,?_⟩;cases v with
 |slice bb oo len cap=>let⟨x1,x2,x3⟩:=e2;exact⟨x1,x2,main bb oo x3⟩
 |sliceU bb oo len cap=>let⟨x1,x2,x3⟩:=e2;exact⟨x1,x2,main bb oo x3⟩
 |_=>exact e2
theorem kA{h:Heap}{v:V}{L:List (Int×Int)}(w:WF h)(a:Sp h v L)(ok:SOK L (-1))(hn:L.length≤4096):
 aj go 244 [v] h fun u h'=>u=.int .i64 0∧Fr [] h h':=by
 have hl:¬(4096:Int)<L.length:=oM
 refine ab ?_;simp only[evs,seval,a.len,hl];refine aA (fun k env hh=>Fr [] h hh∧∃(i:Nat)(last:Int),env.get 11=some (.int .i64 i)∧env.get 3=some (.int .i64 last)∧env.get 9=some v∧env.get 10=some (.int .i64 L.length)∧
  i≤L.length∧SOK (L.drop i) last∧k=L.length-i) L.length oM ?_ ?_
 ·exact⟨Fr.refl w,0,-1,iS,iS,iS,iS,oM,ok,rfl⟩
 ·rintro k env hh ⟨F,i,last,g11,g3,g9,g10,hi,ok,rfl⟩;by_cases hlt:(i:Int)<L.length
  ·let⟨b,o,s,e1,e2,e3,e4,e5⟩:=Sp.ix (a.fr F) i hlt;rw[aG e5]at ok;let⟨k1,k2,k3,k4,k5⟩:=ok;let⟨h1,e_h1,F_h1,o_h1⟩:=ao F.wf [.int .i64 0,.int .i64 0];simp only[evs,seval,g11,g9,g10,hlt,e1,e4,←e_h1];refine stu F_h1.wf o_h1 ?_;rintro h2 o_h2 F_h2 n_h2;simp(disch:=omega) only[evs,seval,ah,g11,g3,o_h2.ld1,(oM:¬s.1<0),(oM:¬s.2≤s.1),(oM:¬1073741824<s.2),(oM:¬s.1≤last)];refine rqn ⟨L.length-(i+1),oM,F.then (F_h1.fresh F_h2 F.wf (Nat.le_refl _)),i+1,s.2,iS,iS,iX,iX,oM,k5,rfl⟩
   done
  ·simp only[evs,seval,g11,g10,hlt];exact F
theorem Ic{h:Heap}{s:Int×Int}{i:Int}{bi:Nat}(w:WF h)(oi:Own h bi [.int .i64 i]):
 aj go 246 [.agg [.int .i64 s.1,.int .i64 s.2],.ptr bi 0] h fun u h'=>u=.bool (decide (s.1≤i)&&decide (i<s.2))∧Fr [] h h':=by
 let⟨h1,e_h1,F_h1,o_h1⟩:=ao w [.int .i64 s.1,.int .i64 s.2];by_cases c:s.1≤i;refine ab ?_;simp only[evs,seval,←e_h1,o_h1.ld1,(F_h1.get oi).ld1,c];exact⟨iS,F_h1⟩;refine ab ?_;simp only[evs,seval,←e_h1,o_h1.ld1,(F_h1.get oi).ld1,c];exact⟨iS,F_h1⟩
theorem DP{L:List (Int×Int)}{i:Nat}{s:Int×Int}(e:L[i]? =some s)(x:Int):inS (L.drop i) x=((decide (s.1≤x)&&decide (x<s.2))||inS (L.drop (i+1)) x):=by rw[aG e];rfl
theorem CD{h:Heap}{v:V}{L:List (Int×Int)}{x:Int}{bi:Nat}(w:WF h)(a:Sp h v L)(oi:Own h bi [.int .i64 x])(hn:L.length≤4096):
 aj go 282 [v,.func (.func 246) [] [.ptr bi 0]] h fun u h'=>∃r:Int,u=.int .i64 r∧(decide (0≤r)=inS L x)∧Fr [] h h':=by
 refine ab ?_;simp only[evs,seval,a.len];refine aA (fun k env hh=>Fr [] h hh∧∃(i:Nat),env.get 8=some (.int .i64 i)∧env.get 7=some (.int .i64 L.length)∧env.get 0=some v∧env.get 1=some (.func (.func 246) [] [.ptr bi 0])∧
  i≤L.length∧inS (L.drop i) x=inS L x∧k=L.length-i) L.length oM ?_ ?_
 ·exact⟨Fr.refl w,0,iS,iS,iS,iS,oM,rfl,rfl⟩
 ·rintro k env hh ⟨F,i,g8,g7,g0,g1,hi,e,rfl⟩;by_cases hlt:(i:Int)<L.length
  ·let⟨b,o,s,e1,e2,e3,e4,e5⟩:=Sp.ix (a.fr F) i hlt;rw[DP e5]at e;simp only[evs,seval,g8,g7,g0,g1,hlt,e1,e4];refine aa (Ic F.wf (F.get oi)) ?_;rintro _ h1 ⟨rfl,F1⟩;by_cases c:(decide (s.1≤x)&&decide (x<s.2))=true
   ·simp only[evs,seval,c];rw[c]at e;exact⟨i,rfl,by rw[←e];simp,F.then F1⟩
   ·rw[Bool.not_eq_true]at c;simp(disch:=omega) only[evs,seval,ah,c,g8];rw[c]at e;refine rqn ⟨L.length-(i+1),oM,F.then F1,i+1,iS,iX,iX,iX,oM,by simpa using e,rfl⟩
    done
  ·simp only[evs,seval,g8,g7,hlt];rw[List.drop_of_length_le oM]at e;exact⟨-1,rfl,by rw[←e];rfl,F⟩
theorem J3{h:Heap}{v:V}{L:List (Int×Int)}{x:Int}(w:WF h)(a:Sp h v L)(ok:SOK L (-1))(hn:L.length≤4096):
 aj go 184 [v,.int .i64 x] h fun u h'=>u=.bool (inS L x)∧Fr [] h h':=by
 let⟨h1,e_h1,F_h1,o_h1⟩:=ao w [.int .i64 x];refine ab ?_;simp only[evs,seval,←e_h1];refine aa (kA F_h1.wf (a.fr F_h1) ok hn) ?_;rintro _ h2 ⟨rfl,F2⟩;simp only[evs,seval];have F12:=F_h1.then F2;refine aa (?_:aj go 245 _ _ (fun u h'=>u=.bool (inS L x)∧Fr [] h2 h')) ?_;refine ab ?_;simp only[evs,seval];refine aa (CD F2.wf (a.fr F12) (F2.get o_h1) hn) ?_;rintro _ h3 ⟨r,rfl,e,F3⟩;simp only[evs,seval];exact⟨by rw[e],F3⟩;rintro _ h3 ⟨rfl,F3⟩;simp only[evs,seval];exact F12.then F3
def mU(L:List (Int×Int))(a b:Int):List (Int×Int):=if b≤a then L else match L.getLast? with
 |some s=>if a≤s.2 then L.dropLast++[(s.1,max s.2 b)]else L++[(a,b)]
 |none=>[(a,b)]
theorem px(L M:List (Int×Int))(x:Int):inS (L++M) x=(inS L x||inS M x):=by simp[inS]
theorem ip(s:Int×Int)(M:List (Int×Int))(x:Int):inS (s::M) x=((decide (s.1≤x)&&decide (x<s.2))||inS M x):=rfl
theorem mB(x:Int):inS [] x=false:=rfl
theorem SOK.gt:∀{L:List (Int×Int)}{b:Int},SOK L b→∀s∈L,b<s.1∧0≤s.1∧s.1<s.2∧s.2≤1073741824
 |t::L,b,⟨h1,h2,h3,h4,h5⟩,s,hs=>by obtain rfl|hs:=List.mem_cons.1 hs;omega;have:=SOK.gt h5 s hs;omega
theorem SOK.below{L:List (Int×Int)}{b x:Int}(ok:SOK L b)(h:x≤b):inS L x=false:=by simp only[inS,List.any_eq_false,Bool.and_eq_true,decide_eq_true_eq];intro s hs;have:=ok.gt s hs;omega
theorem SOK.app:∀{L M:List (Int×Int)}{b c:Int},SOK L b→SOK M c→(∀s∈L,s.2≤c)→b≤c→SOK (L++M) b
 |[],M,b,c,_,hm,_,h=>by
  cases M with
  |nil=>trivial
  |cons s M=>let⟨a1,a2⟩:=hm;exact⟨oM,a2⟩
 |s::L,M,b,c,⟨h1,h2,h3,h4,h5⟩,hm,hb,h=>⟨h1,h2,h3,h4,SOK.app h5 hm (fun t ht=>hb t iX) (hb s iS)⟩
theorem SOK.left:∀{L M:List (Int×Int)}{b:Int},SOK (L++M) b→SOK L b
 |[],_,_,_=>trivial
 |s::L,M,b,⟨h1,h2,h3,h4,h5⟩=>⟨h1,h2,h3,h4,SOK.left h5⟩
theorem SOK.drop:∀{L:List (Int×Int)}{b:Int}(i:Nat),SOK L b→∃c,SOK (L.drop i) c
 |[],b,i,h=>by simp;exact⟨b,trivial⟩
 |s::L,b,0,h=>⟨b,h⟩
 |s::L,b,i+1,⟨_,_,_,_,h⟩=>SOK.drop i h
theorem SOK.last2:∀{L:List (Int×Int)}{s:Int×Int}{b:Int},SOK (L++[s]) b→(∀t∈L,t.2<s.1)∧b<s.1∧0≤s.1∧s.1<s.2∧s.2≤1073741824
 |[],s,b,⟨h1,h2,h3,h4,_⟩=>⟨iS,h1,h2,h3,h4⟩
 |t::L,s,b,⟨h1,h2,h3,h4,h5⟩=>by let⟨a,c,d⟩:=SOK.last2 h5;exact⟨by simp only[List.mem_cons,forall_eq_or_imp];exact⟨c,a⟩,oM,d⟩
theorem SOK.count:∀{L:List (Int×Int)}{b:Int},SOK L b→∀m,(∀s∈L,s.2≤m)→b≤m+0→2*(L.length:Int)≤m-b
 |[],b,_,m,_,h=>by simp;omega
 |s::L,b,⟨h1,h2,h3,h4,h5⟩,m,hm,h=>by have:=SOK.count h5 m (fun t ht=>hm t iX) (by have:=hm s iS;omega);simp only[List.length_cons];omega
theorem iy{L:List (Int×Int)}{a b:Int}(ok:SOK L (-1))(hl:a<b→∀s∈L,s.2≤a)(h0:0≤a)(hb:b≤1073741824):
 SOK (mU L a b) (-1)∧(∀x,inS (mU L a b) x=(inS L x||(decide (a≤x)&&decide (x<b))))∧(∀m,(∀s∈L,s.2≤m)→(a<b→b≤m)→∀s∈mU L a b,s.2≤m):=by
 unfold mU;by_cases h:b≤a;grind;rw[if_neg h];have hl:=hl oM;obtain rfl|⟨L',s,rfl⟩:=List.eq_nil_or_concat L;simp only[List.getLast?_nil];refine⟨⟨by simp;omega,by simp;omega,by simp;omega,hb,trivial⟩,fun x=>by simp[inS],fun m _ hm s hs=>?_⟩;simp at hs;subst hs;exact hm oM;simp only[List.concat_eq_append]at ok hl⊢;simp only[List.getLast?_append,List.getLast?_singleton,Option.some_or,List.dropLast_concat];let⟨k1,k2,k3,k4,k5⟩:=ok.last2;have hs:=hl s iS;by_cases hc:a≤s.2;rw[if_pos hc];have e:max s.2 b=b:=oM;rw[e];refine⟨SOK.app (c:=s.1-1) ok.left ⟨by simp;omega,k3,by simp;omega,hb,trivial⟩ (fun t ht=>by have:=k1 t ht;omega) oM,fun x=>?_,fun m hm hbm t ht=>?_⟩;simp only[px,ip,mB,Bool.or_false,Bool.or_assoc];congr 1;rw[Bool.eq_iff_iff];simp;omega;grind;rw[if_neg hc];refine⟨SOK.app (c:=a-1) ok ⟨by simp;omega,h0,by simp;omega,hb,trivial⟩ (fun t ht=>?_) oM,fun x=>?_,fun m hm hbm t ht=>?_⟩;grind;simp only[px,ip,mB,Bool.or_false];grind
theorem qU{h:Heap}{B:Nat}{v:V}{L:List (Int×Int)}{a b:Int}(w:WF h)(g:GRecs sp 2 h B v L)(hB:B≤h.next)(hn:(L.length:Int)≤1073741824):
 aj go 278 [v,.int .i64 a,.int .i64 b] h fun u h'=>GRecs sp 2 h' B u (mU L a b)∧Fr (vb v) h h':=by
 have s:=g.recs dO oM;by_cases h1:b≤a;refine ab ?_;simp only[evs,seval,s.len,h1];unfold mU;rw[if_pos h1];exact⟨g,Fr.refl w⟩;obtain rfl|⟨L',t,rfl⟩:=List.eq_nil_or_concat L;obtain⟨h1',e_h1'⟩:∃h1',h1'=halloc h (sp (a,b)):=⟨_,rfl⟩;have F_h1':Fr [] h h1':=e_h1'▸Fr.halloc w _;have o_h1':Own h1' h.next (sp (a,b)):=e_h1'▸Own.new w _;have e_h2:halloc h [.int .i64 a,.int .i64 b]=h1':=e_h1'.symm;have hz:aP .lenS [v]=some (.int .i64 0):=s.len;refine ab ?_;simp only[evs,seval,hz,h1,(oM:¬(0:Int)<0),e_h2];refine GRecs.append (x:=(a,b)) F_h1'.wf (g.fr F_h1') dO (zQ _) oM o_h1' (Nat.le_trans hB F_h1'.next) iS ?_;intro v' h' g' u;simp only[evs,seval];unfold mU;rw[if_neg h1];exact⟨g',F_h1'.trans u w iS (fun x hx=>.inl hx)⟩;simp only[List.concat_eq_append]at g s hn⊢;have hlen:((L'++[t]).length:Int)=L'.length+1:=by simp
 let⟨bb,oo,x,e1,e2,e3,e4,e5⟩:=Sp.ix s L'.length oM;have hx:x=t:=by simpa using e5.symm
 subst hx;have pos:(0:Int)<L'.length+1:=oM;have es:(L'.length:Int)+1-1=L'.length:=oM;by_cases h2:a≤x.2;obtain⟨rfl,gg⟩|⟨b0,n0,rfl,hl0,hn0,hB0,og⟩:=g;have:=congrArg List.length gg;rw[aE dO]at this;simp at this;rw[aE dO]at hl0;have e0:n0=L'.length+1:=by simp at hl0;omega
 subst e0;have e1':=lP 2 b0 0 (L'.length+1) 2 .i64 L'.length oM oM;rw[e1]at e1';simp only[Option.some.injEq,V.ptr.injEq,Int.toNat_natCast]at e1';obtain⟨rfl,rfl⟩:=e1';simp only[Nat.zero_add]at e1 e3;refine ab ?_;simp(disch:=omega) only[evs,seval,ah,s.len,h1,hlen,pos,es,e1,e3,h2];have hfl:(L'++[x]).flatMap sp=L'.flatMap sp++[.int .i64 x.1,.int .i64 x.2]:=by simp[sp]
 rw[hfl]at og;have hu:bC (L'.flatMap sp++[.int .i64 x.1,.int .i64 x.2]) (L'.length*2+1) [.int .i64 (max x.2 b)]=some (L'.flatMap sp++[.int .i64 x.1,.int .i64 (max x.2 b)]):=by have hlf:(L'.flatMap sp).length=L'.length*2:=aE dO L';rw[cD _ _ _ iX];congr 1;rw[List.take_append,List.take_of_length_le oM,List.drop_of_length_le iX];rw[hlf,(oM:L'.length*2+1-L'.length*2=1)];simp
 refine ai (c':=_) (v:=.int .i64 (max x.2 b)) (o:=L'.length*2+1) w og rfl rfl hu ?_;intro h' o' F' n';simp only[evs,seval];unfold mU;rw[if_neg h1];simp only[List.getLast?_append,List.getLast?_singleton,Option.some_or,List.dropLast_concat,if_pos h2];refine⟨.inr ⟨bb,L'.length+1,rfl,by rw[aE dO];simp,oM,hB0,?_⟩,F'⟩;rw[List.flatMap_append];simpa[sp]using o';obtain⟨h1',e_h1'⟩:∃h1',h1'=halloc h (sp (a,b)):=⟨_,rfl⟩;have F_h1':Fr [] h h1':=e_h1'▸Fr.halloc w _;have o_h1':Own h1' h.next (sp (a,b)):=e_h1'▸Own.new w _;have e_h2:halloc h [.int .i64 a,.int .i64 b]=h1':=e_h1'.symm;refine ab ?_;simp(disch:=omega) only[evs,seval,ah,s.len,h1,hlen,pos,es,e1,e3,h2,e_h2];refine GRecs.append (x:=(a,b)) F_h1'.wf (g.fr F_h1') dO (zQ _) oM o_h1' (Nat.le_trans hB F_h1'.next) oO ?_;intro v' h' g' u;simp only[evs,seval];unfold mU;rw[if_neg h1];simp only[List.getLast?_append,List.getLast?_singleton,Option.some_or,if_neg h2];exact⟨g',F_h1'.trans u w iS (fun x hx=>.inl hx)⟩
theorem Ie{h:Heap}{B:Nat}{v:V}{L:List (Int×Int)}(g:GRecs sp 2 h B v L):aj go 303 [v] h fun u h'=>SpF h u L∧u.one=true∧h'=h:=by
 have s:=g.recs dO oM;obtain⟨rfl,gg⟩|⟨b0,n0,rfl,hl0,hn0,hB0,og⟩:=g;have e:aP (.sl none 2 false true true) [.nils,.int .i64 (L.length:Int),.int .i64 (L.length:Int)]=some .nils:=by
  have:L=[]:=by have:=congrArg List.length gg;rw[aE dO,List.length_nil]at this;exact List.length_eq_zero_iff.1 oM
  subst this;rfl
 have hz:aP .lenS [.nils]=some (.int .i64 (L.length:Int)):=s.len;refine ab ?_;simp only[tZ,tY,t7,eJ,nV,Cr,Cq,Bs,kB,kw,nD,nC,kS,ga,tn,bY,eg,bK,bj,bR,fQ,dT,T.get_set,dL,iB,iq,nL,fM,tR,hz,e,seval];exact⟨.inl ⟨rfl,by have:=congrArg List.length gg;rw[aE dO,List.length_nil]at this;exact List.length_eq_zero_iff.1 oM⟩,rfl,trivial⟩;rw[aE dO]at hl0;have e0:n0=L.length:=oM;subst e0;have hab:aQ L.length L.length false true true [.int .i64 (L.length:Int),.int .i64 (L.length:Int)]=some (0,L.length,some L.length):=by simp only[aQ,bD .i64 (L.length:Int) L.length oM oM,Option.bind_some,Int.toNat_natCast,Option.map_some]
 have e:aP (.sl none 2 false true true) [.sliceU b0 0 L.length 2,.int .i64 (L.length:Int),.int .i64 (L.length:Int)]=some (.slice b0 0 L.length L.length):=by have hq:(Nat.beq 2 2&&Nat.blt 0 2)=true:=rfl;simp only[aP,dD,hq,cond_true,hab,Option.bind_some,eR (oM:L.length≠0),cond_false,Nat.zero_mul,Nat.sub_zero,Nat.add_zero]
 refine ab ?_;simp only[evs,seval,e];exact⟨.inr ⟨b0,rfl,og,hn0⟩,rfl⟩
theorem uS{h:Heap}{B:Nat}{v:V}{L:List (Int×Int)}(g:GRecs sp 2 h B v L)(hn:L.length≤4096):aj go 279 [v] h fun u h'=>∃z,u=.tup [z,.int .i64 0]∧SpF h z L∧z.one=true∧h'=h:=by have s:=g.recs dO oM;refine ab ?_;simp only[evs,seval,s.len,(oM:¬(4096:Int)<L.length)];refine aa (Ie g) ?_;rintro z _ ⟨a,b,rfl⟩;simp only[evs,seval];exact⟨z,rfl,a,b⟩
theorem uR{h:Heap}{s:Int×Int}{a:Int}(w:WF h):aj go 299 [.agg [.int .i64 s.1,.int .i64 s.2],.int .i64 a] h fun u h'=>u=.int .i64 (if a<s.1 then s.1 else s.2)∧Fr [] h h':=by let⟨h1,e_h1,F_h1,o_h1⟩:=ao w [.int .i64 s.1,.int .i64 s.2];by_cases c:a<s.1;refine ab ?_;simp only[evs,seval,←e_h1,o_h1.ld1,c];exact F_h1;refine ab ?_;simp only[evs,seval,←e_h1,o_h1.ld1,c];exact F_h1
theorem HL{h:Heap}{u v:V}{A B:List (Int×Int)}(w:WF h)(a:Sp h u A)(b:Sp h v B)(oka:SOK A (-1))(okb:SOK B (-1))(ha:A.length≤4096)(hb:B.length≤4096):
 aj go 298 [u,v] h fun u h'=>u=.int .i64 0∧Fr [] h h':=by
 refine ab ?_;simp only[evs,seval];refine aa (kA w a oka ha) ?_;rintro _ h1 ⟨rfl,F1⟩;simp only[evs,seval];apply aa (kA F1.wf (b.fr F1) okb hb);rintro _ h2 ⟨rfl,F2⟩;simp only[evs,seval];exact F1.then F2
def cnt(A:List (Int×Int))(a:Int):Nat:=(A.map fun s=>(if a<s.1 then 1 else 0)+(if a<s.2 then 1 else 0)).sum
theorem jQ(s:Int×Int)(A:List (Int×Int))(a:Int):cnt (s::A) a=(if a<s.1 then 1 else 0)+(if a<s.2 then 1 else 0)+cnt A a:=by simp[cnt]
theorem lL:∀(A:List (Int×Int)){a e:Int},a≤e→cnt A e≤cnt A a
 |[],_,_,_=>Nat.le_refl _
 |s::A,a,e,h=>by have:=lL A h;rw[jQ,jQ];by_cases c1:e<s.1<;>by_cases c2:e<s.2<;>by_cases c3:a<s.1<;>by_cases c4:a<s.2<;>simp[c1,c2,c3,c4]<;>omega
theorem qD:∀(A:List (Int×Int)){a e:Int}{s:Int×Int},a<e→s∈A→(s.1=e∨s.2=e)→cnt A e<cnt A a
 |t::A,a,e,s,h,hs,hse=>by rw[jQ,jQ];have hle:=lL A (Int.le_of_lt h);obtain rfl|hs:=List.mem_cons.1 hs;grind;have:=qD A h hs hse;by_cases c1:e<t.1<;>by_cases c2:e<t.2<;>by_cases c3:a<t.1<;>by_cases c4:a<t.2<;>simp[c1,c2,c3,c4]<;>omega
theorem Az(A:List (Int×Int))(a:Int):cnt A a≤2*A.length:=by
 induction A with
 |nil=>simp[cnt]
 |cons s A ih=>rw[jQ];simp only[List.length_cons];by_cases c3:a<s.1<;>by_cases c4:a<s.2<;>simp[c3,c4]<;>omega
def rD(D:List (Int×Int))(a:Int):Bool:=match D with
 |[]=>false
 |s::_=>decide (s.1≤a)
def kR(D:List (Int×Int))(a:Int):Int:=match D with
 |[]=>1073741824
 |s::_=>if a<s.1 then s.1 else s.2
theorem seg{D:List (Int×Int)}{last a x:Int}(ok:SOK D last)(hx:a≤x)(hD:∀s D',D=s::D'→a<s.2)(he:x<kR D a):inS D x=rD D a:=by
 cases D with
 |nil=>rfl
 |cons s D=>let⟨h1,h2,h3,h4,h5⟩:=ok;have:=hD s D rfl;simp only[kR]at he;rw[ip,SOK.below h5 (by split at he<;>omega),Bool.or_false];simp only[rD];rw[Bool.eq_iff_iff];simp;split at he<;>omega
theorem kg{A:List (Int×Int)}{i:Nat}{a x:Int}(h:∀s∈A.take i,s.2≤a)(hx:a≤x):inS A x=inS (A.drop i) x:=by
 conv=>lhs;rw[←List.take_append_drop i A]
 rw[px];have:inS (A.take i) x=false:=by simp only[inS,List.any_eq_false,Bool.and_eq_true,decide_eq_true_eq];intro s hs;have:=h s hs;omega
 rw[this,Bool.false_or]
theorem CM{A:List (Int×Int)}{i:Nat}{s:Int×Int}{a:Int}(h:∀s∈A.take i,s.2≤a)(e:A[i]? =some s)(hs:s.2≤a):∀s∈A.take (i+1),s.2≤a:=by intro t ht;rw[List.take_add_one,e]at ht;simp at ht;obtain ht|rfl:=ht;exact h t ht;exact hs
theorem zR{h:Heap}{v:V}{A:List (Int×Int)}{env:T V}{at':Int}{i:Nat}{Q:Ex→T V→Heap→Prop}{c:IC}(sv sx sz:Nat)(hA:A.length≤4096)(h10:sx≠10∧sz≠10∧sv≠sx∧sv≠sz∧sx≠sz)(id:Nat)
 (a:Sp h v A) (gv:env.get sv=some v) (g10:env.get 10=some (.int .i64 at')) (gx:env.get sx=some (.int .i64 i)) (hi:i≤A.length) (hb:∀s∈A.take i,s.2≤at')
 (body:∀(env:T V)(i:Nat)(Q:Ex→T V→Heap→Prop),env.get sv=some v→env.get 10=some (.int .i64 at')→env.get sx=some (.int .i64 i)→i≤A.length→
  (∀env',env'.get sx=some (.int .i64 ((i:Int)+1))→(∀s,s≠sx→s≠sz→env'.get s=env.get s)→(∃s,A[i]? =some s∧s.2≤at')→Q .norm env' h)→
  (∀env',(∀s,s≠sz→env'.get s=env.get s)→(∀s,A[i]? =some s→at'<s.2)→Q (.exit id) env' h)→W go c env h Q)
 (k:∀env' (j:Nat),env'.get sx=some (.int .i64 j)→(∀s,s≠sx→s≠sz→env'.get s=env.get s)→j≤A.length→(∀s∈A.take j,s.2≤at')→(∀s,A[j]? =some s→at'<s.2)→Q (.exit id) env' h):
 W go (.loop c) env h Q:=by
 refine aA (fun k env' hh=>hh=h∧(∀s,s≠sx→s≠sz→env'.get s=env.get s)∧∃j:Nat,env'.get sx=some (.int .i64 j)∧j≤A.length∧(∀s∈A.take j,s.2≤at')∧k=A.length-j) (A.length-i) oM ?_ ?_;grind;rintro k' env1 hh ⟨rfl,same,j,gj,hj,hbj,rfl⟩;refine body env1 j _ ((same sv h10.2.2.1 h10.2.2.2.1).trans gv) ((same 10 (Ne.symm h10.1) (Ne.symm h10.2.1)).trans g10) gj hj ?_ ?_;rintro env2 e1 e2 ⟨s,es,hs⟩;have hlt:j<A.length:=by grind
 exact rqn ⟨A.length-(j+1),oM,rfl,fun s a1 a2=>(e2 s a1 a2).trans (same s a1 a2),j+1,by simpa using e1,oM,CM hbj es hs,rfl⟩;intro env2 e2 hs;exact(jB _ _ _ _).2 (k env2 j ((e2 sx h10.2.2.2.2).trans gj) (fun s a1 a2=>(e2 s a2).trans (same s a1 a2)) hj hbj hs)
structure Keep(kf:V)(keep:Bool→Bool→Bool):Prop where
 fn:∃g,kf=.func (.func g) [] []∧g<1099511627776∧∀h a b,aj go g [.bool a,.bool b] h fun u h'=>u=.bool (keep a b)∧h'=h
 ff:keep false false=false
theorem sJ{h:Heap}{u v kf:V}{A B:List (Int×Int)}{keep:Bool→Bool→Bool}(w:WF h)(a:Sp h u A)(b:Sp h v B)(oka:SOK A (-1))(okb:SOK B (-1))(ha:A.length≤4096)(hb:B.length≤4096)
 (hk:Keep kf keep) (m:Int) (hm:m≤8000) (hma:∀s∈A,s.2≤m) (hmb:∀s∈B,s.2≤m):
 aj go 269 [u,v,kf] h fun z h'=>Fr [] h h'∧∃y L,z=.tup [y,.int .i64 0]∧y.one=true∧SpF h' y L∧SOK L (-1)∧(∀x,inS L x=keep (inS A x) (inS B x))∧∀s∈L,s.2≤max m 0:=by
 refine ab ?_;simp only[evs,seval];refine E7 ?_;simp only[evs,seval];refine aa (HL w a b oka okb ha hb) ?_;rintro _ h1 ⟨rfl,F1⟩;simp only[evs,seval];obtain⟨g,rfl,hgy,hkf⟩:=hk.fn;have below:∀(O:List (Int×Int)){c:Int},(∀s∈O,s.2≤c)→∀x,c≤x→inS O x=false:=by intro O c hO x hx;simp only[inS,List.any_eq_false,Bool.and_eq_true,decide_eq_true_eq];intro s hs;have:=hO s hs;omega
 refine aA (fun k env hh=>∃(i j:Nat)(at':Int)(vo:V)(O:List (Int×Int)),Fr [] h hh∧env.get 0=some u∧env.get 1=some v∧env.get 2=some (.func (.func g) [] [])∧env.get 9=some vo∧
  env.get 10=some (.int .i64 at')∧env.get 11=some (.int .i64 i)∧env.get 12=some (.int .i64 j)∧i≤A.length∧j≤B.length∧0≤at'∧at'≤max m 0∧(∀s∈A.take i,s.2≤at')∧(∀s∈B.take j,s.2≤at')∧
  GRecs sp 2 hh h.next vo O∧SOK O (-1)∧(∀s∈O,s.2≤at')∧(∀x,x<at'→inS O x=keep (inS A x) (inS B x))∧k=cnt A at'+cnt B at') (cnt A 0+cnt B 0) (by have:=Az A 0;have:=Az B 0;omega) ?_ ?_
 refine⟨0,0,0,.nils,[],F1,iS,iS,iS,iS,iS,iS,iS,oM,oM,oM,oM,iS,iS,GRecs.nil,trivial,iS,?_,rfl⟩;intro x hx;rw[oka.below oM,okb.below oM,hk.ff];rfl;rintro k env hh ⟨i,j,at',vo,O,F,g0,g1,g2,g9,g10,g11,g12,hi,hj,at0,atm,hbi,hbj,gO,okO,mO,sO,rfl⟩;simp only[evs,seval];refine zR 0 11 34 ha oM 2 (a.fr F) g0 g10 g11 hi hbi ?_ ?_;intro env i Q g0 g10 g11 hi hn hx;by_cases hlt:(i:Int)<A.length;let⟨bb,oo,s,e1,e2,e3,e4,e5⟩:=Sp.ix (a.fr F) i hlt;by_cases hs:s.2≤at';simp(disch:=omega) only[evs,seval,ah,g0,g10,g11,(a.fr F).len,hlt,e1,e3,hs];exact hn _ iS (fun s h1 h2=>by simp[h1,h2]) ⟨s,e5,hs⟩;simp only[evs,seval,g0,g10,g11,(a.fr F).len,hlt,e1,e3,hs];exact hx _ (fun s h1=>by simp[h1]) (fun t ht=>by rw[e5]at ht;cases ht;omega);simp only[evs,seval,g0,g11,(a.fr F).len,hlt];exact hx _ (fun s h1=>by simp[h1]) (fun t ht=>by rw[List.getElem?_eq_none oM]at ht;cases ht);intro env1 i1 g11' same1 hi1 hb1 hs1;have g0':=(same1 0 oM oM).trans g0;have g1':=(same1 1 oM oM).trans g1;have g2':=(same1 2 oM oM).trans g2;have g9':=(same1 9 oM oM).trans g9;have g10':=(same1 10 oM oM).trans g10;have g12':=(same1 12 oM oM).trans g12;simp only[evs,seval];refine zR 1 12 49 hb oM 4 (b.fr F) g1' g10' g12' hj hbj ?_ ?_;intro env i Q g0 g10 g11 hi hn hx;by_cases hlt:(i:Int)<B.length;let⟨bb,oo,s,e1,e2,e3,e4,e5⟩:=Sp.ix (b.fr F) i hlt;by_cases hs:s.2≤at';simp(disch:=omega) only[evs,seval,ah,g0,g10,g11,(b.fr F).len,hlt,e1,e3,hs];exact hn _ iS (fun s h1 h2=>by simp[h1,h2]) ⟨s,e5,hs⟩;simp only[evs,seval,g0,g10,g11,(b.fr F).len,hlt,e1,e3,hs];exact hx _ (fun s h1=>by simp[h1]) (fun t ht=>by rw[e5]at ht;cases ht;omega);simp only[evs,seval,g0,g11,(b.fr F).len,hlt];exact hx _ (fun s h1=>by simp[h1]) (fun t ht=>by rw[List.getElem?_eq_none oM]at ht;cases ht);intro env2 j1 g12'' same2 hj1 hb2 hs2;have n0:=(same2 0 oM oM).trans g0';have n1:=(same2 1 oM oM).trans g1';have n2:=(same2 2 oM oM).trans g2';have n9:=(same2 9 oM oM).trans g9';have n10:=(same2 10 oM oM).trans g10';have n11:=(same2 11 oM oM).trans g11';clear same1 same2 g0' g1' g2' g9' g10' g11' g12' g0 g1 g2 g9 g10 g11 g12 hbi hbj hi hj env env1;let⟨ca,okA⟩:=oka.drop i1;let⟨cb,okB⟩:=okb.drop j1;have segA:∀x,at'≤x→x<kR (A.drop i1) at'→inS A x=rD (A.drop i1) at':=fun x h1 h2=>by rw[kg hb1 h1,seg okA h1 (fun s D' e=>hs1 s (by rw[←List.head?_drop,e];rfl)) h2]
 have segB:∀x,at'≤x→x<kR (B.drop j1) at'→inS B x=rD (B.drop j1) at':=fun x h1 h2=>by rw[kg hb2 h1,seg okB h1 (fun s D' e=>hs2 s (by rw[←List.head?_drop,e];rfl)) h2]
 by_cases cA:(i1:Int)<A.length;let⟨bA,oA,s,eA1,eA2,eA3,eA4,eA5⟩:=Sp.ix (a.fr F) i1 cA;have eD:=aG eA5;rw[eD]at segA okA;simp only[kR,rD]at segA;have sm:=hma s (List.mem_of_getElem? eA5);have s2:=hs1 s eA5;let⟨q1,q2,q3,q4,_⟩:=okA;simp only[evs,seval,n0,n10,n11,(a.fr F).len,cA,eA1,eA2,eA4];refine aa (uR F.wf) ?_;rintro _ h3 ⟨rfl,F3⟩;have FH:=F.then F3;obtain⟨eA,heA⟩:∃eA,eA=if at'<s.1 then s.1 else s.2:=⟨_,rfl⟩;rw[←heA]at segA⊢;have leA:at'<eA∧eA≤m∧eA≤1073741824∧(s.1=eA∨s.2=eA):=oM;by_cases cB:(j1:Int)<B.length;let⟨bB,oB,t,eB1,eB2,eB3,eB4,eB5⟩:=Sp.ix (b.fr FH) j1 cB;have eE:=aG eB5;rw[eE]at segB okB;simp only[kR,rD]at segB;have tm:=hmb t (List.mem_of_getElem? eB5);have t2:=hs2 t eB5;let⟨r1,r2,r3,r4,_⟩:=okB;simp only[evs,seval,n1,n10,g12'',(b.fr FH).len,cB,eB1,eB2,eB4];refine aa (uR F3.wf) ?_;rintro _ h4 ⟨rfl,F4⟩;have FH:=FH.then F4;have gO':=gO.fr (F3.then F4);obtain⟨eB,heB⟩:∃eB,eB=if at'<t.1 then t.1 else t.2:=⟨_,rfl⟩;rw[←heB]at segB⊢;have leB:at'<eB∧eB≤m∧eB≤1073741824∧(t.1=eB∨t.2=eB):=oM;simp only[evs,seval,n0,n2,n11,(a.fr FH).len,(oM:¬(i1:Int)=A.length)];obtain⟨e,he⟩:∃e,e=min (min 1073741824 eA) eB:=⟨_,rfl⟩;rw[←he];have hA:∀x,at'≤x→x<e→inS A x=decide (s.1≤at'):=fun x h1 h2=>segA x h1 oM;have hB:∀x,at'≤x→x<e→inS B x=decide (t.1≤at'):=fun x h1 h2=>segB x h1 oM;have heM:e≤max m 0:=oM;have hcnt:cnt A e+cnt B e<cnt A at'+cnt B at':=by by_cases c:eA≤eB;have:=qD A (a:=at') (e:=e) oM (List.mem_of_getElem? eA5) oM;have:=lL B (a:=at') (e:=e) oM;omega;have:=qD B (a:=at') (e:=e) oM (List.mem_of_getElem? eB5) oM;have:=lL A (a:=at') (e:=e) oM;omega
 have cO:=okO.count at' mO oM;refine⟨hgy,aa (hkf _ _ _) ?_⟩;rintro _ _ ⟨rfl,hhh⟩;subst hhh;cases hkeep:keep (decide (s.1≤at')) (decide (t.1≤at'));simp only[evs,seval];refine rqn ⟨cnt A e+cnt B e,hcnt,i1,j1,e,vo,O,FH,iX,iX,iX,iX,iS,iX,iX,hi1,hj1,oM,heM,fun s hs=>by have:=hb1 s hs;omega,fun s hs=>by have:=hb2 s hs;omega,gO',okO,fun s hs=>by have:=mO s hs;omega,?_,rfl⟩;intro x hx;by_cases hxa:x<at';exact sO x hxa;grind;simp only[evs,seval,n9,n10];refine aa (qU FH.wf gO' FH.next oM) ?_;rintro vo' h9 ⟨g9,U9⟩;replace U9:=Gs.up gO' U9;simp only[evs,seval];let⟨s1,s2,s3⟩:=iy (a:=at') (b:=e) okO (fun _=>mO) at0 oM;refine rqn ⟨cnt A e+cnt B e,hcnt,i1,j1,e,vo',mU O at' e,FH.ups w U9,iX,iX,iX,iS,iS,iX,iX,hi1,hj1,oM,heM,fun s hs=>by have:=hb1 s hs;omega,fun s hs=>by have:=hb2 s hs;omega,g9,s1,s3 e (fun s hs=>by have:=mO s hs;omega) (fun _=>Int.le_refl _),?_,rfl⟩;intro x hx;rw[s2 x];by_cases hxa:x<at';grind;grind;have gO':=gO.fr F3;rw[List.drop_of_length_le oM]at segB;simp only[kR,rD]at segB;simp only[evs,seval,n0,n1,n2,n11,g12'',(a.fr FH).len,(b.fr FH).len,cB,(oM:¬(i1:Int)=A.length)];obtain⟨e,he⟩:∃e,e=min 1073741824 eA:=⟨_,rfl⟩;rw[←he];have hA:∀x,at'≤x→x<e→inS A x=decide (s.1≤at'):=fun x h1 h2=>segA x h1 oM;have hB:∀x,at'≤x→x<e→inS B x=false:=fun x h1 h2=>segB x h1 oM;have heM:e≤max m 0:=oM;have hcnt:cnt A e+cnt B e<cnt A at'+cnt B at':=by have:=qD A (a:=at') (e:=e) oM (List.mem_of_getElem? eA5) oM;have:=lL B (a:=at') (e:=e) oM;omega
 have cO:=okO.count at' mO oM;refine⟨hgy,aa (hkf _ _ _) ?_⟩;rintro _ _ ⟨rfl,hhh⟩;subst hhh;cases hkeep:keep (decide (s.1≤at')) (false);simp only[evs,seval];refine rqn ⟨cnt A e+cnt B e,hcnt,i1,j1,e,vo,O,FH,iX,iX,iX,iX,iS,iX,iX,hi1,hj1,oM,heM,fun s hs=>by have:=hb1 s hs;omega,fun s hs=>by have:=hb2 s hs;omega,gO',okO,fun s hs=>by have:=mO s hs;omega,?_,rfl⟩;intro x hx;by_cases hxa:x<at';exact sO x hxa;grind;simp only[evs,seval,n9,n10];refine aa (qU FH.wf gO' FH.next oM) ?_;rintro vo' h9 ⟨g9,U9⟩;replace U9:=Gs.up gO' U9;simp only[evs,seval];let⟨s1,s2,s3⟩:=iy (a:=at') (b:=e) okO (fun _=>mO) at0 oM;refine rqn ⟨cnt A e+cnt B e,hcnt,i1,j1,e,vo',mU O at' e,FH.ups w U9,iX,iX,iX,iS,iS,iX,iX,hi1,hj1,oM,heM,fun s hs=>by have:=hb1 s hs;omega,fun s hs=>by have:=hb2 s hs;omega,g9,s1,s3 e (fun s hs=>by have:=mO s hs;omega) (fun _=>Int.le_refl _),?_,rfl⟩;intro x hx;rw[s2 x];by_cases hxa:x<at';grind;grind;rw[List.drop_of_length_le oM]at segA;simp only[kR,rD]at segA;have FH:=F;by_cases cB:(j1:Int)<B.length;let⟨bB,oB,t,eB1,eB2,eB3,eB4,eB5⟩:=Sp.ix (b.fr FH) j1 cB;have eE:=aG eB5;rw[eE]at segB okB;simp only[kR,rD]at segB;have tm:=hmb t (List.mem_of_getElem? eB5);have t2:=hs2 t eB5;let⟨r1,r2,r3,r4,_⟩:=okB;simp only[evs,seval,n0,n1,n10,n11,g12'',(a.fr FH).len,(b.fr FH).len,cA,cB,eB1,eB2,eB4];refine aa (uR FH.wf) ?_;rintro _ h4 ⟨rfl,F4⟩;have FH:=FH.then F4;have gO':=gO.fr F4;obtain⟨eB,heB⟩:∃eB,eB=if at'<t.1 then t.1 else t.2:=⟨_,rfl⟩;rw[←heB]at segB⊢;have leB:at'<eB∧eB≤m∧eB≤1073741824∧(t.1=eB∨t.2=eB):=oM;simp only[evs,seval,n0,n1,n2,n11,g12'',(a.fr FH).len,(b.fr FH).len,eq_true (oM:(i1:Int)=A.length),(oM:¬(j1:Int)=B.length)];obtain⟨e,he⟩:∃e,e=min 1073741824 eB:=⟨_,rfl⟩;rw[←he];have hA:∀x,at'≤x→x<e→inS A x=false:=fun x h1 h2=>segA x h1 oM;have hB:∀x,at'≤x→x<e→inS B x=decide (t.1≤at'):=fun x h1 h2=>segB x h1 oM;have heM:e≤max m 0:=oM;have hcnt:cnt A e+cnt B e<cnt A at'+cnt B at':=by have:=qD B (a:=at') (e:=e) oM (List.mem_of_getElem? eB5) oM;have:=lL A (a:=at') (e:=e) oM;omega
 have cO:=okO.count at' mO oM;refine⟨hgy,aa (hkf _ _ _) ?_⟩;rintro _ _ ⟨rfl,hhh⟩;subst hhh;cases hkeep:keep (false) (decide (t.1≤at'));simp only[evs,seval];refine rqn ⟨cnt A e+cnt B e,hcnt,i1,j1,e,vo,O,FH,iX,iX,iX,iX,iS,iX,iX,hi1,hj1,oM,heM,fun s hs=>by have:=hb1 s hs;omega,fun s hs=>by have:=hb2 s hs;omega,gO',okO,fun s hs=>by have:=mO s hs;omega,?_,rfl⟩;intro x hx;by_cases hxa:x<at';exact sO x hxa;grind;simp only[evs,seval,n9,n10];refine aa (qU FH.wf gO' FH.next oM) ?_;rintro vo' h9 ⟨g9,U9⟩;replace U9:=Gs.up gO' U9;simp only[evs,seval];let⟨s1,s2,s3⟩:=iy (a:=at') (b:=e) okO (fun _=>mO) at0 oM;refine rqn ⟨cnt A e+cnt B e,hcnt,i1,j1,e,vo',mU O at' e,FH.ups w U9,iX,iX,iX,iS,iS,iX,iX,hi1,hj1,oM,heM,fun s hs=>by have:=hb1 s hs;omega,fun s hs=>by have:=hb2 s hs;omega,g9,s1,s3 e (fun s hs=>by have:=mO s hs;omega) (fun _=>Int.le_refl _),?_,rfl⟩;intro x hx;rw[s2 x];by_cases hxa:x<at';grind;grind;rw[List.drop_of_length_le oM]at segB;simp only[kR,rD]at segB;simp only[evs,seval,n0,n1,n9,n11,g12'',(a.fr FH).len,(b.fr FH).len,cA,cB,eq_true (oM:(i1:Int)=A.length),eq_true (oM:(j1:Int)=B.length)];have cO:=okO.count at' mO oM;refine aa (uS gO oM) ?_;rintro _ _ ⟨z,rfl,sz,oz,hhh⟩;subst hhh;simp only[evs,seval];refine⟨FH,z,O,rfl,oz,sz,okO,fun x=>?_,fun s hs=>by have:=mO s hs;omega⟩;by_cases hxa:x<at';exact sO x hxa;rw[below O mO x oM,kg hb1 (oM:at'≤x),kg hb2 (oM:at'≤x),List.drop_of_length_le oM,List.drop_of_length_le oM];simp[inS,hk.ff]
theorem Hi:Keep (.func (.func 271) [] []) (fun a b=>a||b):=by
 refine⟨⟨271,rfl,dI,fun h a b=>?_⟩,rfl⟩;cases a;refine ab ?_;simp only[evs,seval];cases b<;>rfl
 refine ab ?_;simp only[evs,seval];rfl
theorem DM:Keep (.func (.func 270) [] []) (fun a b=>a&& !b):=by refine⟨⟨270,rfl,dI,fun h a b=>?_⟩,rfl⟩;cases a;refine ab ?_;simp only[evs,seval];rfl;refine ab ?_;simp only[evs,seval];cases b<;>rfl
theorem Fq{h:Heap}{u v:V}{A B:List (Int×Int)}(w:WF h)(a:Sp h u A)(b:Sp h v B)(oka:SOK A (-1))(okb:SOK B (-1))(ha:A.length≤4096)(hb:B.length≤4096)
 (m:Int) (hm:m≤8000) (hma:∀s∈A,s.2≤m) (hmb:∀s∈B,s.2≤m):
 aj go 224 [u,v] h fun z h'=>Fr [] h h'∧∃y L,z=.tup [y,.int .i64 0]∧y.one=true∧SpF h' y L∧SOK L (-1)∧(∀x,inS L x=(inS A x||inS B x))∧∀s∈L,s.2≤max m 0:=by
 refine ab ?_;simp only[evs,seval];refine aa (sJ w a b oka okb ha hb Hi m hm hma hmb) ?_;rintro _ h1 ⟨F,y,L,rfl,r⟩;simp only[evs,seval];exact⟨F,y,L,rfl,r⟩
theorem zu{h:Heap}{u v:V}{A B:List (Int×Int)}(w:WF h)(a:Sp h u A)(b:Sp h v B)(oka:SOK A (-1))(okb:SOK B (-1))(ha:A.length≤4096)(hb:B.length≤4096)
 (m:Int) (hm:m≤8000) (hma:∀s∈A,s.2≤m) (hmb:∀s∈B,s.2≤m):
 aj go 223 [u,v] h fun z h'=>Fr [] h h'∧∃y L,z=.tup [y,.int .i64 0]∧y.one=true∧SpF h' y L∧SOK L (-1)∧(∀x,inS L x=(inS A x&& !inS B x))∧∀s∈L,s.2≤max m 0:=by
 refine ab ?_;simp only[evs,seval];refine aa (sJ w a b oka okb ha hb DM m hm hma hmb) ?_;rintro _ h1 ⟨F,y,L,rfl,r⟩;simp only[evs,seval];exact⟨F,y,L,rfl,r⟩
theorem SOK.len{L:List (Int×Int)}(ok:SOK L (-1)){m:Int}(hm:m≤8000)(h:∀s∈L,s.2≤m):L.length≤4096:=by have:=ok.count (max m 0) (fun s hs=>by have:=h s hs;omega) oM;omega
theorem sN{h:Heap}{v:V}{L:List (Int×Int)}{f t m:Int}{kn:Bool}(w:WF h)(af:SpF h v L)(ok:SOK L (-1))(hm:m≤8000)(hL:∀s∈L,s.2≤m)(hf:0≤f)(hft:f≤t)(ht:t≤m):
 aj go 166 [v,.int .i64 f,.int .i64 t,.bool kn] h fun y h'=>Fr [] h h'∧∃L',y.one=true∧SpF h' y L'∧SOK L' (-1)∧(∀x,inS L' x=if f≤x∧x<t then kn else inS L x)∧∀s∈L',s.2≤m:=by
 have a:=af.slc;by_cases e:f=t;refine ab ?_;simp only[evs,seval,eq_true e];exact⟨Fr.refl w,L,Sl.one a,af,ok,fun x=>by rw[if_neg oM],hL⟩;have hlen:=ok.len hm hL;obtain⟨h1,e_h1⟩:∃h1,h1=halloc h (sp (f,t)):=⟨_,rfl⟩;have F_h1:Fr [] h h1:=e_h1▸Fr.halloc w _;have o_h1:Own h1 h.next (sp (f,t)):=e_h1▸Own.new w _;have e_h2:halloc h [.int .i64 f,.int .i64 t]=h1:=e_h1.symm;have ok1:SOK [(f,t)] (-1):=⟨by simp;omega,hf,by simp;omega,by simp;omega,trivial⟩;have s1:Sp h1 (.slice h.next 0 1 1) [(f,t)]:=Sl.lit (n:=1) o_h1 rfl;have mx:max m 0=m:=oM;cases kn;refine ab ?_;simp only[evs,seval,eq_false e,e_h2];refine aa (zu F_h1.wf (a.fr F_h1) s1 ok ok1 hlen iS m hm hL (by simp;exact ht)) ?_;rintro _ h2 ⟨F2,y,L',rfl,o1,sL,okL,iL,mL⟩;simp only[evs,seval];rw[mx]at mL;refine⟨F_h1.then F2,L',o1,sL,okL,fun x=>?_,mL⟩;rw[iL,ip,mB];by_cases c:f≤x∧x<t;grind;grind;refine ab ?_;simp only[evs,seval,eq_false e,e_h2];refine aa (Fq F_h1.wf (a.fr F_h1) s1 ok ok1 hlen iS m hm hL (by simp;exact ht)) ?_;rintro _ h2 ⟨F2,y,L',rfl,o1,sL,okL,iL,mL⟩;simp only[evs,seval];rw[mx]at mL;refine⟨F_h1.then F2,L',o1,sL,okL,fun x=>?_,mL⟩;rw[iL,ip,mB];by_cases c:f≤x∧x<t;grind;grind
theorem zG{h:Heap}{c vk:V}{e:Int}(w:WF h)(hc:c.one=true)(hk:vk.one=true):
 aj go 165 [.agg [c],vk,.int .i64 e] h fun z h'=>Fr [] h h'∧z=if e=0 then .tup [.agg [c,vk],.int .i64 0]else .tup [.agg [.nilp,.nils],.int .i64 e]:=by
 let⟨h1,e_h1,F_h1,o_h1⟩:=ao w [c];let⟨h2,e_h2,F_h2,o_h2⟩:=ao F_h1.wf [.nilp,.nils];have F12:=F_h1.then F_h2;by_cases e0:e=0;subst e0;refine ab ?_;simp only[evs,seval,←e_h1,←e_h2,(F_h2.get o_h1).ld,az hk];refine stu F_h2.wf o_h2 ?_;rintro h3 o_h3 F_h3 n_h3;simp only[evs,seval,o_h3.ld];exact F12.fresh F_h3 w F_h1.next;refine ab ?_;simp only[evs,seval,←e_h1,←e_h2,eq_false e0];refine stu F_h2.wf o_h2 ?_;rintro h3 o_h3 F_h3 n_h3;simp only[evs,seval,o_h3.ld];exact F12.fresh F_h3 w F_h1.next
theorem Bq{h:Heap}{v:V}{L:List (Int×Int)}{a n:Int}(w:WF h)(s:Sp h v L)(ok:SOK L (-1))(hl:L.length≤4096)(ha:0≤a)(ha1:a≤1073741824)(hn:0≤n)(hn1:n≤1073741824):
 aj go 277 [v,.int .i64 a,.int .i64 n] h fun u h'=>u=.int .i64 0∧Fr [] h h':=by
 refine ab ?_;simp only[evs,seval];refine aa (kA w s ok hl) ?_;rintro _ h1 ⟨rfl,F⟩;simp only[evs,seval,(oM:¬a<0),(oM:¬1073741824<a),(oM:¬n<0),(oM:¬1073741824<n)];exact F
def shf(a n:Int)(f:Int→Bool)(x:Int):Bool:=if x<a then f x else if x<a+n then false else f (x-n)
theorem HX{h:Heap}{v:V}{L:List (Int×Int)}{a n m:Int}(w:WF h)(s:Sp h v L)(ok:SOK L (-1))(hm:m+n≤8000)(hL:∀s∈L,s.2≤m)(hm0:0≤m)(ha:0≤a)(ha1:a≤m)(hn:0≤n):
 aj go 240 [v,.int .i64 a,.int .i64 n] h fun z h'=>Fr [] h h'∧∃y L',z=.tup [y,.int .i64 0]∧y.one=true∧SpF h' y L'∧SOK L' (-1)∧(∀x,inS L' x=shf a n (inS L) x)∧∀s∈L',s.2≤m+n:=by
 have hlen:=ok.len oM hL;refine ab ?_;simp only[evs,seval];refine aa (Bq w s ok hlen ha oM hn oM) ?_;rintro _ h1 ⟨rfl,F1⟩;have s1:=s.fr F1;by_cases e:L=[];subst e;have hz:aP .lenS [v]=some (.int .i64 0):=s.len;simp(disch:=omega) only[evs,seval,ah,hz,(oM:¬(0:Int)≤0-1)];apply aA (fun _ env hh=>hh=h1∧env.get 10=some .nils∧env.get 46=some (.int .i64 0)∧env.get 45=some (.int .i64 0)) 0 oM ⟨rfl,iS,iS,iS⟩;rintro k env hh ⟨rfl,g10,g46,g45⟩;simp only[evs,seval,g10,g46,g45,(oM:¬(0:Int)<0)];apply aa (uS (B:=0) GRecs.nil iS);rintro _ _ ⟨z,rfl,sz,oz,hh⟩;subst hh;simp only[evs,seval];exact⟨F1,z,[],rfl,oz,sz,trivial,fun x=>by simp[shf,inS],iS⟩;have pos:0<L.length:=List.length_pos_iff.2 e;let⟨bb,oo,t,e1,e2,e3,e4,e5⟩:=Sp.ix s1 (L.length-1) oM;have el:((L.length-1:Nat):Int)=(L.length:Int)-1:=oM;rw[el]at e1;have tm:=hL t (List.mem_of_getElem? e5);have c:a<t.2∨¬a<t.2:=oM;obtain c|c:=c;all_goals
  simp(disch:=omega) only[evs,seval,ah,s1.len,(oM:(0:Int)≤(L.length:Int)-1),e1,e3,c,(oM:¬1073741824<t.2+n)];refine aA (fun k env hh=>∃(i:Nat)(vo:V)(O:List (Int×Int))(last:Int),Fr [] h hh∧env.get 44=some v∧env.get 45=some (.int .i64 L.length)∧env.get 46=some (.int .i64 i)∧env.get 10=some vo∧
   env.get 1=some (.int .i64 a)∧env.get 2=some (.int .i64 n)∧i≤L.length∧GRecs sp 2 hh h.next vo O∧SOK O (-1)∧SOK (L.drop i) last∧(∀s∈O,s.2≤if last≤a then last else last+n)∧last≤m∧
   (∀x,inS O x=shf a n (inS (L.take i)) x)∧k=L.length-i) L.length oM ?_ ?_
  exact⟨0,.nils,[],-1,F1,iS,iS,iS,iS,iS,iS,oM,GRecs.nil,trivial,ok,iS,oM,fun x=>by simp[shf,inS],rfl⟩;rintro k env hh ⟨i,vo,O,last,F,g44,g45,g46,g10,g1,g2,hi,gO,okO,okL,mO,lm,sO,rfl⟩;have cO:=okO.count (m+n) (fun s hs=>by have:=mO s hs;split at this<;>omega) oM;by_cases hlt:(i:Int)<L.length;let⟨bb,oo,s,e1,e2,e3,e4,e5⟩:=Sp.ix (Recs.fr (L:=L) ‹Sp h v L› F) i hlt
  have sm:=hL s (List.mem_of_getElem? e5);rw[aG e5]at okL;let⟨k1,k2,k3,k4,k5⟩:=okL;let⟨h2,e_h2,F_h2,o_h2⟩:=ao F.wf [.int .i64 0,.int .i64 0];simp only[evs,seval,g44,g45,g46,hlt,e1,e4,←e_h2];apply stu F_h2.wf o_h2;rintro h3 o_h3 F_h3 n_h3;have F23:Fr [] hh h3:=F_h2.fresh F_h3 F.wf (Nat.le_refl _);have F3:=F.then F23;have b3:h.next≤h3.next:=F3.next;have bk:h.next≤hh.next:=F.next;simp only[evs,seval,g10,g1,o_h3.ld1];apply aa (qU F3.wf (gO.fr F23) b3 oM);rintro v1 h4 ⟨gO1,U4⟩;let⟨p1,p2,p3⟩:=iy (a:=s.1) (b:=min s.2 a) okO (fun hh s' hs'=>by have:=mO s' hs';split at this<;>omega) k2 oM;have mO1:∀s'∈mU O s.1 (min s.2 a),s'.2≤if s.2≤a then s.2 else s.2+n:=p3 _ (fun s' hs'=>by have:=mO s' hs';split at this<;>split<;>omega) (fun _=>by split<;>omega);have mO1':∀s'∈mU O s.1 (min s.2 a),s'.2≤max s.1 a+n:=p3 _ (fun s' hs'=>by have:=mO s' hs';split at this<;>omega) (fun _=>by omega);have cO1:=p1.count (m+n) (fun s hs=>by have:=mO1 s hs;split at this<;>omega) oM;have oo3:Own h4 hh.next [.int .i64 s.1,.int .i64 s.2]:=by refine U4.own _ _ ?_ o_h3;obtain⟨rfl,_⟩|⟨b,n',rfl,_,_,_,og⟩:=gO;simp[vb];have:=og.lt F.wf;simp[vb];omega
  have U4':=Gs.up (gO.fr F23) U4;simp(disch:=omega) only[evs,seval,ah,g1,g2,oo3.ld1];apply aa (qU U4.wf gO1 (Nat.le_trans b3 U4.next) oM);rintro v2 h5 ⟨gO2,U5⟩;have U5':=Gs.up gO1 U5;let⟨q1,q2,q3⟩:=iy (a:=max s.1 a+n) (b:=s.2+n) p1 (fun _=>mO1') oM oM;simp(disch:=omega) only[evs,seval,ah,g46];refine rqn ⟨L.length-(i+1),oM,i+1,v2,_,s.2,F3.ups w (U4'.trans U5'),iX,iX,iS,iS,iX,iX,oM,gO2,q1,k5,q3 _ mO1 (fun _=>by split<;>omega),sm,?_,rfl⟩;intro x;rw[q2,p2,sO,List.take_add_one,e5];simp only[Option.toList_some,shf,px,ip,mB,Bool.or_false];by_cases c1:x<a;grind;grind;simp only[evs,seval,g45,g46,g10,hlt];apply aa (uS gO oM);rintro _ _ ⟨z,rfl,sz,oz,hh⟩;subst hh;simp only[evs,seval];refine⟨F,z,O,rfl,oz,sz,okO,fun x=>by rw[sO,List.take_of_length_le oM],fun s hs=>by have:=mO s hs;split at this<;>omega⟩
structure Kn(L:List (Int×Int))(ks:List Bool):Prop where
 ok:SOK L (-1)
 le:∀s∈L,s.2≤ks.length
 eq:∀i:Nat,inS L i=ks.getD i false
def Ix(h:Heap)(v:V)(l:List Int)(ks:List Bool):Prop:=∃p vk L,v=.agg [pv p,vk]∧Rp h (.agg [pv p]) l∧SpF h vk L∧Kn L ks∧ks.length=l.length∧l.length≤1024
theorem Ix.fr{h h':Heap}{v:V}{l:List Int}{ks:List Bool}(a:Ix h v l ks)(f:Fr [] h h'):Ix h' v l ks:=by let⟨p,vk,L,e,r,s,x⟩:=a;exact⟨p,vk,L,e,r.fr f,s.fr f,x⟩
theorem Ix.len{h:Heap}{v:V}{l:List Int}{ks:List Bool}(a:Ix h v l ks):ks.length=l.length∧l.length≤1024:=by let⟨p,vk,L,e,r,s,_,x⟩:=a;exact x
theorem Ix.fit{h:Heap}{v:V}{l:List Int}{ks:List Bool}(a:Ix h v l ks):Fit l:=by let⟨p,vk,L,e,r,s,_,x⟩:=a;let⟨_,_,_,_,_,f⟩:=r;exact f
theorem iZ{h:Heap}{v:V}{l:List Int}{ks:List Bool}(w:WF h)(a:Ix h v l ks):aj go 133 [v] h fun u h'=>u=.int .i64 l.length∧Fr [] h h':=by obtain⟨p,vk,L,rfl,r,s,_⟩:=a;let⟨h1,e_h1,F_h1,o_h1⟩:=ao w [pv p,vk];refine ab ?_;simp only[evs,seval,←e_h1,o_h1.ld];refine aa (nX F_h1.wf (r.fr F_h1)) ?_;rintro _ h2 ⟨rfl,F2⟩;simp only[evs,seval];exact F_h1.then F2
theorem HU{h:Heap}{v:V}{l:List Int}{ks:List Bool}{i:Int}(w:WF h)(a:Ix h v l ks):
 aj go 87 [v,.int .i64 i] h fun u h'=>(u=if 0≤i∧i≤l.length then .tup [.int .i64 (l.take i.toNat).sum,.int .i64 0]else .tup [.int .i64 0,.int .i64 4])∧Fr [] h h':=by
 obtain⟨p,vk,L,rfl,r,s,_⟩:=a;let⟨h1,e_h1,F_h1,o_h1⟩:=ao w [pv p,vk];refine ab ?_;simp only[evs,seval,←e_h1,o_h1.ld];refine aa (JP F_h1.wf (r.fr F_h1)) ?_;rintro _ h2 ⟨rfl,F2⟩;by_cases c:0≤i∧i≤l.length;simp only[if_pos c];simp only[evs,seval];exact F_h1.then F2;simp only[if_neg c];simp only[evs,seval];exact F_h1.then F2
theorem vr{h:Heap}{v:V}{l:List Int}{ks:List Bool}{x:Int}(w:WF h)(a:Ix h v l ks)(hx0:-9223372036854775808≤x)(hx1:x≤9223372036854775807):
 aj go 108 [v,.int .i64 x] h fun u h'=>(u=if 0≤x∧x<l.sum then .tup [.int .i64 (aM l x).1,.int .i64 (aM l x).2,.int .i64 0]else .tup [.int .i64 0,.int .i64 0,.int .i64 4])∧Fr [] h h':=by
 obtain⟨p,vk,L,rfl,r,s,_⟩:=a;let⟨h1,e_h1,F_h1,o_h1⟩:=ao w [pv p,vk];refine ab ?_;simp only[evs,seval,←e_h1,o_h1.ld];refine aa (Id F_h1.wf (r.fr F_h1) hx0 hx1) ?_;rintro _ h2 ⟨rfl,F2⟩;by_cases c:0≤x∧x<l.sum;simp only[if_pos c];simp only[evs,seval];exact F_h1.then F2;simp only[if_neg c];simp only[evs,seval];exact F_h1.then F2
theorem Kn.len{L:List (Int×Int)}{ks:List Bool}(k:Kn L ks)(h:ks.length≤1024):L.length≤4096:=k.ok.len (m:=ks.length) oM k.le
theorem Co{h:Heap}{v:V}{l:List Int}{ks:List Bool}{i:Int}(w:WF h)(a:Ix h v l ks):
 aj go 125 [v,.int .i64 i] h fun u h'=>(u=if 0≤i∧i<l.length then .tup [.bool (ks.getD i.toNat false),.int .i64 0]else .tup [.bool false,.int .i64 4])∧Fr [] h h':=by
 have a0:=a;obtain⟨p,vk,L,rfl,r,s,kn,e1,e2⟩:=a;let⟨h1,e_h1,F_h1,o_h1⟩:=ao w [pv p,vk];by_cases h0:i<0;refine ab ?_;simp only[evs,seval,←e_h1,h0];exact⟨by rw[if_neg oM],F_h1⟩;refine ab ?_;simp only[evs,seval,←e_h1,o_h1.ld,h0];apply aa (iZ F_h1.wf (a0.fr F_h1));rintro _ h2 ⟨rfl,F2⟩;by_cases hi:(l.length:Int)≤i;simp only[evs,seval,hi];exact⟨by rw[if_neg oM],F_h1.then F2⟩;simp only[evs,seval,hi,(F2.get o_h1).ld1];apply aa (J3 F2.wf (s.fr (F_h1.then F2)).slc kn.ok (kn.len oM));rintro _ h3 ⟨rfl,F3⟩;simp only[evs,seval];refine⟨?_,(F_h1.then F2).then F3⟩;rw[if_pos oM];have:=kn.eq i.toNat;rw[(oM:((i.toNat:Nat):Int)=i)]at this;rw[this]
theorem pD{h:Heap}{s:Int}:aj go 163 [.int .i64 s] h fun u h'=>u=.bool (decide (s<1∨2305843009213693952<s))∧h'=h:=by by_cases c:s<1;refine ab ?_;simp only[evs,seval,c];simp;refine ab ?_;simp only[evs,seval,c];simp
def cg(l:List Int)(i size:Int):Int:=if 0≤i∧i<l.length then if size<1∨2305843009213693952<size then 12 else if 4611686018427387904-(l.sum-l.getD i.toNat 0)<size then 13 else 0 else 4
theorem uj{l:List Int}{i size:Int}(h:¬((0≤i∧i<l.length)∧(size<1∨2305843009213693952<size))):cg l i size=kE l i size:=by unfold cg kE;by_cases c:0≤i∧i<l.length;omega;omega
theorem DY{ks:List Bool}{i j:Nat}{b:Bool}(h:i<ks.length):(ks.set i b).getD j false=if j=i then b else ks.getD j false:=by grind
theorem AR{h:Heap}{v:V}{l:List Int}{ks:List Bool}{i size:Int}{kn:Bool}(w:WF h)(a:Ix h v l ks)(s0:-9223372036854775808≤size)(s1:size≤9223372036854775807)(i0:-9223372036854775808≤i)(i1:i≤9223372036854775807):
 aj go 107 [v,.int .i64 i,.int .i64 size,.bool kn] h fun u h'=>Fr [] h h'∧∃c d,u=.tup [.agg [c,d],.int .i64 (cg l i size)]∧c.one=true∧d.one=true∧(cg l i size=0→Ix h' (.agg [c,d]) (l.set i.toNat size) (ks.set i.toNat kn)):=by
 have a0:=a;obtain⟨p,vk,L,rfl,r,s,kn',e1,e2⟩:=a;let⟨h1,e_h1,F_h1,o_h1⟩:=ao w [pv p,vk];let⟨h2,e_h2,F_h2,o_h2⟩:=ao F_h1.wf [.nilp,.nils];have F12:=F_h1.then F_h2;have o1:=F_h2.get o_h1;have b1:h.next≤h1.next:=F_h1.next;have c:i<0∨(0≤i∧(l.length:Int)≤i)∨(0≤i∧i<l.length∧¬(size<1∨2305843009213693952<size))∨(0≤i∧i<l.length∧(size<1∨2305843009213693952<size)):=oM;obtain c|c|c|c:=c
 case' inr.inr.inr=>
  refine ab ?_;simp only[evs,seval,←e_h1,←e_h2,o1.ld,eq_true c.1];refine aa (iZ F12.wf (a0.fr F12)) ?_;rintro _ h3 ⟨rfl,F3⟩;simp only[evs,seval,eq_true c.2.1];refine aa pD ?_;rintro _ _ ⟨rfl,hh⟩;subst hh;simp only[evs,seval,eq_true c.2.2];refine stu F3.wf (F3.get o_h2) ?_;rintro h4 o_h4 F_h4 n_h4;simp only[evs,seval,o_h4.ld];have e:cg l i size=12:=by unfold cg;rw[if_pos ⟨c.1,c.2.1⟩,if_pos c.2.2]
  rw[e];exact⟨(F12.then F3).fresh F_h4 w b1,_,_,rfl,rfl,rfl,iS⟩
 case' inl=>
  refine ab ?_;simp only[evs,seval,←e_h1,←e_h2,o1.ld,(oM:¬0≤i)];obtain⟨h3,F3,e3⟩:∃h3,Fr [] h2 h3∧h3=h2:=⟨h2,Fr.refl F12.wf,rfl⟩;rw[←e3];have ee:=uj (l:=l) (i:=i) (size:=size) oM
 case' inr.inl=>
  refine ab ?_;simp only[evs,seval,←e_h1,←e_h2,o1.ld,eq_true c.1];refine aa (iZ F12.wf (a0.fr F12)) ?_;rintro _ h3 ⟨rfl,F3⟩;simp only[evs,seval,(oM:¬i<l.length),(F3.get o1).ld];have ee:=uj (l:=l) (i:=i) (size:=size) oM
 case' inr.inr.inl=>
  refine ab ?_;simp only[evs,seval,←e_h1,←e_h2,o1.ld,eq_true c.1];refine aa (iZ F12.wf (a0.fr F12)) ?_;rintro _ h3 ⟨rfl,F3⟩;simp only[evs,seval,eq_true c.2.1];apply aa pD;rintro _ _ ⟨rfl,hh⟩;subst hh;simp only[evs,seval,eq_false c.2.2,(F3.get o1).ld];have ee:=uj (l:=l) (i:=i) (size:=size) oM
 all_goals
  clear c;try simp only[evs,seval,DF,eff,(F3.get o1).ld]
  have F13:=F12.then F3;apply aa (HZ F3.wf (r.fr F13) s0 s1);rintro _ h4 ⟨F4,c4,rfl,hc4,hr⟩;rw[ee];let⟨h5,e_h5,F_h5,o_h5⟩:=ao F4.wf [.nilp];simp only[evs,seval,←e_h5];apply ai (c':=[c4]) F_h5.wf o_h5 rfl (by simp[av,V.cells,hc4]) rfl;rintro h6 o6 F6 n6;have F46:Fr [] h4 h6:=F_h5.fresh F6 F4.wf (Nat.le_refl _);have F36:=(F4.then F46);have F26:=F3.then F36;by_cases z:kE l i size=0;have hi:0≤i∧i<l.length:=by unfold kE at z;by_cases hh:0≤i∧i<l.length;exact hh;rw[if_neg hh]at z;omega
  simp(disch:=omega) only[evs,seval,eff,ah,eq_true z,o6.ld,(F26.get o1).ld1];apply aa (sN (m:=ks.length) F46.wf (s.fr (F12.then F26)) kn'.ok oM kn'.le oM oM oM);rintro vk' h7 ⟨F7,L',ov,sL,okL,iL,mL⟩;simp only[evs,eff];apply aa (zG F7.wf hc4 ov);rintro _ h8 ⟨F8,rfl⟩;rw[if_pos rfl];have F28:=(F26.then F7).then F8;simp only[evs,seval,eff];apply stu F8.wf (F28.get o_h2);rintro h9 o_h9 F_h9 n_h9;simp only[evs,seval,DF,eff,o_h9.ld,o6.ld,(F26.get o1).ld1,(F7.get o6).ld];have rr:=(hr z);let⟨t',p',ep,at',et,ft⟩:=rr;cases ep;refine⟨(F12.then F28).fresh F_h9 w b1,_,_,by rw[z],fu _,ov,fun _=>⟨p',vk',L',rfl,?_,?_,?_,?_,?_⟩⟩;exact(Rp.fr (l:=l.set i.toNat size) ⟨t',p',rfl,at',et,ft⟩ ((F46.then F7).then F8)).frb F_h9 (F28.get o_h2) iS;exact(sL.fr F8).frb F_h9 (F28.get o_h2) (Bu iS);refine⟨okL,by simpa using mL,fun j=>?_⟩;rw[iL,DY oM,kn'.eq];by_cases cj:j=i.toNat;rw[if_pos cj,if_pos oM];rw[if_neg cj,if_neg oM];simpa using e1;simpa using e2;simp only[evs,seval,eq_false z];apply stu F46.wf (F26.get o_h2);rintro h9 o_h9 F_h9 n_h9;simp only[evs,seval,o_h9.ld];exact⟨(F12.then F26).fresh F_h9 w b1,_,_,rfl,rfl,rfl,by simp[]⟩
def uo(t:Int):List Int→Int
 |[]=>0
 |s::l=>if s<1∨2305843009213693952<s then 12 else if 4611686018427387904<t+s then 13 else uo (t+s) l
theorem xo:∀(a:List Int)(s t:Int),chk (a++[s]) t=if chk a t=0 then(if s<0∨2305843009213693952<s then 12 else if 4611686018427387904-(t+a.sum)<s then 13 else 0)else chk a t
 |[],s,t=>by simp[chk]
 |x::a,s,t=>by simp only[List.cons_append,chk];by_cases c1:x<0∨2305843009213693952<x;omega;simp only[if_neg c1];by_cases c2:4611686018427387904-t<x;omega;simp only[if_neg c2];rw[xo a s (t+x)];simp only[List.sum_cons,(oM:t+x+a.sum=t+(x+a.sum))];rfl
def cG(l:List Int)(a:Int)(m:List Int):Int:=if 0≤a∧a≤l.length then if 1024-(l.length:Int)<m.length then 3 else if uo 0 m=0 then(if 4611686018427387904-m.sum<l.sum then 13 else 0)else uo 0 m else 4
theorem DO{ks:List Bool}{a n:Nat}{kn:Bool}(ha:a≤ks.length)(j:Nat):
 (ks.take a++List.replicate n kn++ks.drop a).getD j false=if j<a then ks.getD j false else if j<a+n then kn else ks.getD (j-n) false:=by
 simp only[List.getD_eq_getElem?_getD];by_cases c1:j<a;grind;grind
theorem HV{h:Heap}{v u:V}{l m:List Int}{ks:List Bool}{i:Int}{kn:Bool}(w:WF h)(a:Ix h v l ks)(am:ou h u m)(hm:m.length≤1000000)(i0:-9223372036854775808≤i)(i1:i≤9223372036854775807):
 aj go 231 [v,.int .i64 i,u,.bool kn] h fun z h'=>Fr [] h h'∧∃c d,z=.tup [.agg [c,d],.int .i64 (cG l i m)]∧c.one=true∧d.one=true∧
  (cG l i m=0→Ix h' (.agg [c,d]) (l.take i.toNat++m++l.drop i.toNat) (ks.take i.toNat++List.replicate m.length kn++ks.drop i.toNat)):=by
 have a0:=a;obtain⟨p,vk,L,rfl,r,s,kn',e1,e2⟩:=a;let⟨h1,e_h1,F_h1,o_h1⟩:=ao w [pv p,vk];let⟨h2,e_h2,F_h2,o_h2⟩:=ao F_h1.wf [.nilp,.nils];have F12:=F_h1.then F_h2;have o1:=F_h2.get o_h1;have b1:h.next≤h1.next:=F_h1.next;by_cases c0:i<0
 ·refine ab ?_;simp only[evs,seval,←e_h1,←e_h2,c0];refine stu F_h2.wf o_h2 ?_;rintro h4 o_h4 F_h4 n_h4;simp only[evs,seval,o_h4.ld];have e:cG l i m=4:=by unfold cG;rw[if_neg oM]
  rw[e];exact⟨F12.fresh F_h4 w b1,_,_,rfl,rfl,rfl,iS⟩
 ·refine ab ?_;simp only[evs,seval,←e_h1,←e_h2,o1.ld,c0];refine aa (iZ F12.wf (a0.fr F12)) ?_;rintro _ h3 ⟨rfl,F3⟩;by_cases c1:(l.length:Int)<i
  ·simp only[evs,seval,c1];apply stu F3.wf (F3.get o_h2);rintro h4 o_h4 F_h4 n_h4;simp only[evs,seval,o_h4.ld];have e:cG l i m=4:=by unfold cG;rw[if_neg oM]
   rw[e];exact⟨(F12.then F3).fresh F_h4 w b1,_,_,rfl,rfl,rfl,iS⟩
  ·have am3:=am.fr (F12.then F3);simp only[evs,seval,c1,am3.len,(F3.get o1).ld];apply aa (iZ F3.wf (a0.fr (F12.then F3)));rintro _ h4 ⟨rfl,F4⟩;have F34:=F3.then F4;have F14:=F12.then F34;have am4:=am.fr F14;have hi:0≤i∧i≤l.length:=oM
   by_cases c2:1024-(l.length:Int)<m.length
   ·simp(disch:=omega) only[evs,seval,ah,c2];apply stu F4.wf (F34.get o_h2);rintro h5 o_h5 F_h5 n_h5;simp only[evs,seval,o_h5.ld];have e:cG l i m=3:=by unfold cG;rw[if_pos hi,if_pos c2]
    rw[e];exact⟨F14.fresh F_h5 w b1,_,_,rfl,rfl,rfl,iS⟩
   ·simp(disch:=omega) only[evs,seval,ah,c2,am4.len];have o2:=F34.get o_h2;refine aA (fun k env hh=>hh=h4∧∃(j:Nat),env.get 36=some (.int .i64 j)∧env.get 34=some u∧env.get 35=some (.int .i64 m.length)∧env.get 2=some u∧env.get 1=some (.int .i64 i)∧env.get 3=some (.bool kn)∧
     env.get 4=some (.ptr h.next 0)∧env.get 8=some (.ptr h1.next 0)∧j≤m.length∧chk (m.take j) 0=0∧0≤(m.take j).sum∧(m.take j).sum≤4611686018427387904∧uo (m.take j).sum (m.drop j)=uo 0 m∧k=m.length-j) m.length oM ?_ ?_
    ·exact⟨rfl,0,iS,iS,iS,iS,iS,iS,iS,iS,oM,by simp[chk],iS,iS,iS,rfl⟩
    ·rintro k env hh ⟨rfl,j,g36,g34,g35,g2,g1,g3,g4,g8,hj,ck,sn,sm,se,rfl⟩;by_cases hlt:(j:Int)<m.length
     ·let⟨bb,oo,x,q1,q2,q3⟩:=am4.ix .i64 j oM hlt;simp only[Int.toNat_natCast]at q3;rw[aG q3,uo]at se;simp only[evs,seval,g36,g34,g35,hlt,q1,q2];apply aa pD;rintro _ _ ⟨rfl,hh⟩;subst hh;by_cases c3:x<1∨2305843009213693952<x
      ·simp only[evs,seval,eq_true c3,g8];apply stu F4.wf o2;rintro h5 o_h5 F_h5 n_h5;simp only[evs,seval,o_h5.ld,g8];rw[if_pos c3]at se;have e:cG l i m=12:=by unfold cG;rw[if_pos hi,if_neg c2,if_neg oM,←se]
       rw[e];exact⟨F14.fresh F_h5 w b1,_,_,rfl,rfl,rfl,iS⟩
      ·rw[if_neg c3]at se;have hv:u≠.sliceE:=Sl.ne am4 oM;let⟨u',p1,p2⟩:=am4.upto hv .i64 ((j:Int)+1) oM oM;have tk:m.take (j+1)=m.take j++[x]:=by rw[List.take_add_one,q3];rfl
       rw[(oM:((j:Int)+1).toNat=j+1)]at p2;have cs:chk (m.take (j+1)) 0=if 4611686018427387904<(m.take j).sum+x then 13 else 0:=by
        rw[tk,xo,if_pos ck,if_neg oM];by_cases c4:4611686018427387904<(m.take j).sum+x
        ·omega
        ·omega
       simp(disch:=omega) only[evs,seval,ah,eq_false c3,g2,p1];apply aa (rj F4.wf p2 oO);rintro _ _ ⟨rfl,hh⟩;subst hh;rw[if_neg oO,cs];by_cases c4:4611686018427387904<(m.take j).sum+x
       ·rw[if_pos c4]at se⊢;simp only[evs,seval,g8,(oM:¬(13:Int)=0)];apply stu F4.wf o2;rintro h5 o_h5 F_h5 n_h5;simp only[evs,seval,o_h5.ld,g8];have e:cG l i m=13:=by unfold cG;rw[if_pos hi,if_neg c2,if_neg oM,←se]
        rw[e];exact⟨F14.fresh F_h5 w b1,_,_,rfl,rfl,rfl,iS⟩
       ·rw[if_neg c4]at se⊢;simp(disch:=omega) only[evs,seval,ah,g36];have ts:(m.take (j+1)).sum=(m.take j).sum+x:=by rw[tk];simp
        refine rqn ⟨m.length-(j+1),oM,rfl,j+1,iS,iX,iX,iX,iX,iX,iX,iX,oM,by rw[cs,if_neg c4],by rw[ts];omega,by rw[ts];omega,by rw[ts];exact se,rfl⟩
        done
     ·have ej:j=m.length:=oM
      subst ej;simp only[List.take_length,List.drop_length,uo]at ck se sn sm;simp only[evs,seval,g36,g35,g2,g1,g4,hlt,(F34.get o1).ld];apply aa (H4 F4.wf (r.fr F14) am4 hm);rintro _ h5 ⟨F5,c5,rfl,hc5,hr⟩;have ei:rB l i m=cG l i m:=by
       unfold rB cG ofE jm;rw[if_pos hi,if_pos hi,if_neg (oM:¬4096<m.length),if_pos ck,if_neg (oM:¬4096<l.length+m.length),if_neg c2,if_pos se.symm]
      rw[ei]at hr⊢;let⟨h6,e_h6,F_h6,o_h6⟩:=ao F5.wf [.nilp];simp only[evs,seval,←e_h6];apply ai (c':=[c5]) F_h6.wf o_h6 rfl (by simp[av,V.cells,hc5]) rfl;rintro h7 o7 F7 n7;have F57:Fr [] h5 h7:=F_h6.fresh F7 F5.wf (Nat.le_refl _);have F27:=(F34.then F5).then F57;by_cases z:cG l i m=0
      ·simp only[evs,seval,eq_true z,g2,g1,g4,(F27.get o1).ld1,am.len];apply aa (HX (m:=ks.length) F57.wf (s.fr (F12.then F27)).slc kn'.ok oM kn'.le oM oM oM oM);rintro _ h8 ⟨F8,vk1,L1,rfl,ov1,sL1,ok1,iL1,mL1⟩;simp(disch:=omega) only[evs,seval,eff,ah,g2,g1,g3,(F8.get o7).ld,am.len];apply aa (sN (m:=ks.length+m.length) F8.wf sL1 ok1 oM mL1 oM oM oM);rintro vk2 h9 ⟨F9,L2,ov2,sL2,ok2,iL2,mL2⟩;simp only[evs,seval,eff];apply aa (zG F9.wf hc5 ov2);rintro _ h10 ⟨F10,rfl⟩;rw[if_pos rfl];have F210:=((F27.then F8).then F9).then F10;simp only[evs,seval,eff,g8];apply stu F10.wf (F210.get o_h2);rintro h11 o_h11 F_h11 n_h11;simp only[evs,seval,DF,eff,o_h11.ld,g8,(F8.get o7).ld,((F8.then F9).get o7).ld];let⟨t',p',ep,at',et,ft⟩:=hr z;cases ep;refine⟨(F12.then F210).fresh F_h11 w b1,_,_,by rw[z],fu _,ov2,fun _=>⟨p',vk2,L2,rfl,?_,?_,?_,?_,?_⟩⟩
       ·exact(Rp.fr (l:=l.take i.toNat++m++l.drop i.toNat) ⟨t',p',rfl,at',et,ft⟩ (((F57.then F8).then F9).then F10)).frb F_h11 (F210.get o_h2) iS
       ·exact(sL2.fr F10).frb F_h11 (F210.get o_h2) (Bu iS)
       ·refine⟨ok2,?_,fun j=>?_⟩
        ·grind
        ·rw[iL2,iL1,DO oM];unfold shf;by_cases d1:j<i.toNat
         ·rw[if_neg oM,if_pos oM,if_pos d1,kn'.eq]
         ·by_cases d2:j<i.toNat+m.length
          ·grind
          ·rw[if_neg oM,if_neg oM,if_neg oM,if_neg d1,if_neg d2,←kn'.eq];congr 1;omega
       ·simp;omega
       ·simp;omega
      ·simp only[evs,seval,eq_false z,g8];apply stu F57.wf (F27.get o_h2);rintro h9 o_h9 F_h9 n_h9;simp only[evs,seval,o_h9.ld,g8];exact⟨(F12.then F27).fresh F_h9 w b1,_,_,rfl,rfl,rfl,by simp[]⟩
end Go.Ev.Lay
