/- An evaluator of the program, and contracts over it: KnLv to KnLv. -/
import Derived.Test.YtdbfhmneijcjbaaGreatP15
set_option linter.unusedSimpArgs false
set_option linter.unusedVariables false
set_option linter.constructorNameAsVariable false
set_option linter.unnecessarySimpa false
namespace Go.Ev
theorem Kept.mono{m m':M}{b:Nat}{o o':Option Obj}(a:Kept m b o o')(h:∀j,Cov m b j->Cov m' b j):Kept m' b o o':=by
 intro x hx;obtain⟨Z,K,a⟩:=a x hx;refine⟨Z,K,?_⟩;cases x with
 |cells c t fr=>
  cases Z with
  |cells c' t' fr'=>exact⟨a.1,a.2.1,a.2.2.1,fun j hj=>a.2.2.2 j fun q=>hj (h j q)⟩
  |_=>simp at a
 |map es k=>
  cases Z with
  |map es' k'=>trivial
  |_=>simp at a
 |loop r=>
  cases Z with
  |loop r'=>trivial
  |_=>simp at a
 |stringIter z k=>
  cases Z with
  |stringIter z' k'=>trivial
  |_=>simp at a
 |_=>simp at a;subst a;rfl
namespace Lay
noncomputable def FL:T IFn:=F.set 15 fn15
noncomputable def h0:Heap:=⟨.e,4,.e⟩
noncomputable def K9:Bool:=match evF (fun _ _ _=>none) FL 60 15 [] h0 with
 |some (.bool true,_)=>true
 |_=>false
theorem CJ:K9=true:=by decide+kernel
theorem Mm:Ct Go.Proofs.Tryz.prog 0 FL:=by
 intro f fn h;unfold FL at h;rw[TF]at h;by_cases c:f=15
 ·rw[if_pos c]at h;cases h;subst c;exact Kj
 ·rw[if_neg c]at h;exact JG f fn h
theorem CU:∃h1,evF (fun _ _ _=>none) FL 60 15 [] h0=some (.bool true,h1):=by
 have r:=CJ;unfold K9 at r;split at r
 ·rename_i h e;exact⟨h,e⟩
 ·cases r
abbrev KP:LG->Prop:=LOK Go.Proofs.Tryz.prog 0
def mN:M:=fun _=>none
theorem ES(w:World):HRel mN h0 w:=by
 have g:∀p,h0.bl.get p=none:=fun p=>rfl;refine⟨⟨?_,?_⟩,?_,?_,?_⟩
 ·intro p c f k' Z;rw[g p]at Z;cases Z
 ·intro p Z;exact⟨g p,rfl⟩
 ·intro p K Z;cases Z
 ·intro p K Z;cases Z
 ·intro p q lp lq Z;cases Z
theorem Bo:Glob KP 0 mN:=⟨fun g hg=>absurd hg (Nat.not_lt_zero g),fun p loc g hp=>by cases hp⟩
theorem Lg:eN Go.Proofs.Tryz.prog KP 0 lov:=by
 intro f vs h v h' e;unfold lov at e;split at e;case isFalse=>cases e
 rename_i c;obtain⟨rfl,rfl⟩:=c;cases e;obtain⟨h1,run⟩:=CU;obtain⟨info,S⟩:=(vw (P:=Go.Proofs.Tryz.prog) (G:=0) (ov:=fun _ _ _=>none) (fun _ _ _ _ _ e=>by cases e) Mm 60 15 [] h0 _ h1 run).1 (by decide);refine⟨fun _=>⟨info,fun m w args ha H hG=>?_⟩,fun q=>absurd q (by decide)⟩;have ea:args=[]:=ha;subst ea;have key:∀e w',ma mN h0 w (.bool true) h1 e w'→ma m h w (.bool true) h e w':=by
  rintro e w' ⟨x,m1,he,rx,H1,E⟩;refine⟨x,m,he,rx,?_,?_⟩
  ·refine⟨H.wf,fun p loc hp=>?_,fun p loc hp=>Nat.lt_of_lt_of_le (H.inb p loc hp) E.size,H.sep⟩;obtain⟨b,hbb,rb⟩:=H.blk p loc hp;exact⟨b,hbb,rb.mono (fun _ _ x=>x) (fun _ _ _ _ x=>x) (E.keep loc.block (fun q lq hq=>by cases hq) (H.inb p loc hp))⟩
  ·have cv:∀b j,Cov mN b j→Cov m b j:=by
    rintro b j ⟨p,loc,hp,_⟩;cases hp
   refine⟨fun _ _ x=>x,fun _ _ a b=>by simp[a]at b,Nat.le_refl _,fun _ _ _=>rfl,E.size,fun b hb hlt=>E.keep b (fun q lq hq=>by cases hq) hlt,E.os,E.tape,E.output,fun _ _ _ x=>x,fun b hb=>(E.out b hb).mono (cv b),fun _ _ a b=>by simp[a]at b⟩
 exact⟨(S mN w [] rfl (ES w) Bo).1.mono key,fun u=>CallsDIn.mono ((S mN w [] rfl (ES w) Bo).2 u) (fun e u' w' q=>⟨q.1,key e w' q.2⟩)⟩
theorem Ml:eN Go.Proofs.Tryz.prog KP 0 go:=FE Lg JG
end Lay
end Go.Ev
