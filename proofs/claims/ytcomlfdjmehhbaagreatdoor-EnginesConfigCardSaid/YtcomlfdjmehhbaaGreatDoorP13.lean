/- An evaluator of the program, and contracts over it: EcLv to EcLv. -/
import Derived.Test.YtcomlfdjmehhbaaGreatDoorP11
import Derived.Test.YtcomlfdjmehhbaaGreatDoorP12
set_option linter.unusedSimpArgs false
set_option linter.unusedVariables false
set_option linter.constructorNameAsVariable false
set_option linter.unnecessarySimpa false
namespace Go.Ev
namespace Lay
theorem xo{s:Stg}(r:rnS s=true):∃v h,evF (fun _ _ _=>none) F 60 s.f s.args s.heap=some (v,h)∧s.left v h=true:=by
  unfold rnS at r;rw[mE]at r;split at r
  ·rename_i v h e;exact⟨v,h,e,r⟩
  ·cases r
abbrev KP:LG→Prop:=LOK Go.Proofs.Tryz.prog 0
theorem rI{s:Stg}(f:s.fine 0=true)(r:rnS s=true):aL Go.Proofs.Tryz.prog KP 0 s.call:=by
  obtain⟨v,h,e,l⟩:=xo r;exact Stg.callOK (gZ (P:=Go.Proofs.Tryz.prog) (G:=0) (ov:=fun _ _ _=>none) (fun _ _ _ _ _ e=>by cases e) tN 60) s f e l
noncomputable def sov:ai:=orC st1.call (orC st2.call (orC st3.call (orC st4.call (orC st5.call st6.call))))
theorem ya:aL Go.Proofs.Tryz.prog KP 0 sov:=jz (rI yJ zo) (jz (rI yI zn) (jz (rI yH zm) (jz (rI yG zl) (jz (rI yF zk) (rI yE zj)))))
noncomputable def FL:T IFn:=(F.set 5 fn5).del 13
noncomputable def h0:Heap:=⟨.e,1,.e⟩
noncomputable def yb:Bool:=match t6 sov FL 60 5 [] h0 with
  |some (.bool true,_)=>true
  |_=>false
theorem rK:yb=true:=by decide+kernel
theorem zD:rj Go.Proofs.Tryz.prog 0 FL:=by
  intro f fn h;unfold FL at h;rw[T.get_del]at h;by_cases d:f=13
  ·rw[if_pos d]at h;cases h
  rw[if_neg d,T.get_set]at h;by_cases c:f=5
  ·rw[if_pos c]at h;cases h;subst c;exact yC
  ·rw[if_neg c]at h;exact tN f fn h
theorem rT:∃h1,evF sov FL 60 5 [] h0=some (.bool true,h1):=by
  have r:=rK;unfold yb at r;rw[mE]at r;split at r
  ·rename_i h e;exact⟨h,e⟩
  ·cases r
def mN:M:=fun _=>none
theorem tp(w:World):HRel mN h0 w:=by
  have g:∀p,h0.bl.get p=none:=fun p=>rfl;refine⟨⟨?_,?_⟩,?_,?_,?_⟩
  ·intro p c f k' hp;rw[g p]at hp;cases hp
  ·intro p hp;exact⟨g p,rfl⟩
  ·intro p loc hp;cases hp
  ·intro p loc hp;cases hp
  ·intro p q lp lq hp;cases hp
theorem qt:Glob KP 0 mN:=⟨fun g hg=>absurd hg (Nat.not_lt_zero g),fun p loc g hp=>by cases hp⟩
theorem yh:aL Go.Proofs.Tryz.prog KP 0 lov:=by
  intro f vs h v h' e;unfold lov at e;split at e;case isFalse=>cases e
  rename_i c;obtain⟨rfl,rfl⟩:=c;cases e;obtain⟨h1,run⟩:=rT;obtain⟨info,S⟩:=(gZ (P:=Go.Proofs.Tryz.prog) (G:=0) (ov:=sov) ya zD 60 5 [] h0 _ h1 run).1 (by decide);refine⟨fun _=>⟨info,fun m w args ha H hG=>?_⟩,fun q=>absurd q (by decide)⟩;have ea:args=[]:=ha;subst ea;have key:∀e w',eA mN h0 w (.bool true) h1 e w'→eA m h w (.bool true) h e w':=by
   rintro e w' ⟨x,m1,he,rx,H1,E⟩;refine⟨x,m,he,rx,?_,?_⟩
   ·refine⟨H.wf,fun p loc hp=>?_,fun p loc hp=>Nat.lt_of_lt_of_le (H.inb p loc hp) E.size,H.sep⟩;obtain⟨b,hbb,rb⟩:=H.blk p loc hp;exact⟨b,hbb,rb.mono (fun _ _ x=>x) (fun _ _ _ _ x=>x) (E.keep loc.block (fun q lq hq=>by cases hq) (H.inb p loc hp))⟩
   ·have cv:∀b j,Cov mN b j→Cov m b j:=by
      rintro b j ⟨p,loc,hp,_⟩;cases hp
    refine⟨fun _ _ x=>x,fun _ _ a b=>by simp[a]at b,Nat.le_refl _,fun _ _ _=>rfl,E.size,fun b hb hlt=>E.keep b (fun q lq hq=>by cases hq) hlt,E.os,E.tape,E.output,fun _ _ _ x=>x,fun b hb=>(E.out b hb).mono (cv b),fun _ _ a b=>by simp[a]at b⟩
  exact⟨(S mN w [] rfl (tp w) qt).1.mono key,fun u=>CallsDIn.mono ((S mN w [] rfl (tp w) qt).2 u) (fun e u' w' q=>⟨q.1,key e w' q.2⟩)⟩
theorem zC:aL Go.Proofs.Tryz.prog KP 0 go:=tU yh tN
end Lay
end Go.Ev
