/- An evaluator of the program, and contracts over it: KnLv to KnLv. -/
import Derived.Test.YtdbfhmneijcjbaaGreatP16
set_option linter.unusedSimpArgs false
set_option linter.unusedVariables false
set_option linter.constructorNameAsVariable false
set_option linter.unnecessarySimpa false
noncomputable section
namespace Go.Ev
theorem T6.e{m m':M}{b:Nat}{o K:Option Obj}(a:T6 m b o K)(h:∀j,Y9 m b j->Y9 m' b j):T6 m' b o K:=by
 intro x hx;let⟨Z,ab,a⟩:=a x hx;refine⟨Z,ab,?_⟩;cases x with
 |cells c t fr=>
  cases Z with
  |cells c' t' fr'=>exact⟨a.1,a.2.1,a.2.2.1,fun j hj=>a.2.2.2 j fun q=>hj (h j q)⟩
  |_=>simp at a
 |map es k=>
  cases Z with
  |map es' k'=>trivial
  |_=>simp at a
 |loop r=>
  cases Z with
  |loop r'=>trivial
  |_=>simp at a
 |stringIter z k=>
  cases Z with
  |stringIter z' k'=>trivial
  |_=>simp at a
 |_=>simp at a;subst a;rfl
namespace Lay
def FL:T l_:=F.B_ 15 fn15
def h0:b_:=⟨.e,4,.e⟩
def NK:Bool:=match Y7 (fun _ _ _=>none) FL 60 15 [] h0 with
 |some (.h true,_)=>true
 |_=>false
theorem Ey:NK=true:=by decide+kernel
theorem O3:Ec Go.Proofs.Tryz.prog 0 FL:=by intro f fn h;unfold FL at h;rw[WB]at h;by_cases c:f=15;rw[if_pos c]at h;cases h;subst c;exact MV;rw[if_neg c]at h;exact LU f fn h
theorem EH:∃h1,Y7 (fun _ _ _=>none) FL 60 15 [] h0=some (.h true,h1):=by have r:=Ey;unfold NK at r;split at r;rename_i h e;exact⟨h,e⟩;cases r
abbrev KP:LG->Prop:=ZG Go.Proofs.Tryz.prog 0
def mN:M:=fun _=>none
theorem HD(w:World):r_ mN h0 w:=by have g:∀p,h0.S.c_ p=none:=fun p=>rfl;refine⟨⟨?_,?_⟩,?_,?_,?_⟩;intro p c f k' Z;rw[g p]at Z;cases Z;intro p Z;exact⟨g p,rfl⟩;intro p K Z;cases Z;intro p K Z;cases Z;intro p q lp lq Z;cases Z
theorem Db:V6 KP 0 mN:=⟨fun g hg=>absurd hg (Nat.not_lt_zero g),fun p loc g hp=>by cases hp⟩
theorem NW:fu Go.Proofs.Tryz.prog KP 0 lov:=by
 intro f vs h v h' e;unfold lov at e;split at e;case isFalse=>cases e
 rename_i c;obtain⟨rfl,rfl⟩:=c;cases e;let⟨h1,run⟩:=EH;let⟨info,S⟩:=(xf (P:=Go.Proofs.Tryz.prog) (G:=0) (ov:=fun _ _ _=>none) (fun _ _ _ _ _ e=>by cases e) O3 60 15 [] h0 _ h1 run).1 (by decide);refine⟨fun _=>⟨info,fun m w args ha H hG=>?_⟩,fun q=>absurd q (by decide)⟩;have ea:args=[]:=ha;subst ea;have key:∀e w',nw mN h0 w (.h true) h1 e w'→nw m h w (.h true) h e w':=by
  rintro e w' ⟨x,m1,he,rx,H1,E⟩;refine⟨x,m,he,rx,?_,?_⟩;refine⟨H.g,fun p loc hp=>?_,fun p loc hp=>Nat.lt_of_lt_of_le (H.a p loc hp) E.c,H.c⟩;let⟨b,hbb,rb⟩:=H.d p loc hp;exact⟨b,hbb,rb.ag (fun _ _ x=>x) (fun _ _ _ _ x=>x) (E.e loc.a (fun q lq hq=>by cases hq) (H.a p loc hp))⟩;have cv:∀b j,Y9 mN b j→Y9 m b j:=by rintro b j ⟨p,loc,hp,_⟩;cases hp
  refine⟨fun _ _ x=>x,fun _ _ a b=>by simp[a]at b,Nat.le_refl _,fun _ _ _=>rfl,E.c,fun b hb hlt=>E.e b (fun q lq hq=>by cases hq) hlt,E.s,E.g,E.d,fun _ _ _ x=>x,fun b hb=>(E.n b hb).e (cv b),fun _ _ a b=>by simp[a]at b⟩
 exact⟨(S mN w [] rfl (HD w) Db).1.mono key,fun u=>CallsDIn.mono ((S mN w [] rfl (HD w) Db).2 u) (fun e u' w' q=>⟨q.1,key e w' q.2⟩)⟩
theorem OZ:fu Go.Proofs.Tryz.prog KP 0 go:=H8 NW LU
end Lay
end Go.Ev
