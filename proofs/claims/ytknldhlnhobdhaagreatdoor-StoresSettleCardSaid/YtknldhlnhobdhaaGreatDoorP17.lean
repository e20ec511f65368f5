/- An evaluator of the program, and contracts over it: ErLv to ErLv. -/
import Derived.Test.YtknldhlnhobdhaaGreatDoorP16
set_option linter.unusedSimpArgs false
set_option linter.unusedVariables false
set_option linter.constructorNameAsVariable false
set_option linter.unnecessarySimpa false
noncomputable section
namespace Go.Ev
theorem T_.e{m m':M}{b:Nat}{o o':Option Obj}(a:T_ m b o o')(h:∀j,b? m b j->b? m' b j):T_ m' b o o':=by
  intro x hx;obtain⟨Z,K,a⟩:=a x hx;refine⟨Z,K,?_⟩;cases x with
  |cells c t fr=>
    cases Z with
    |cells c' t' fr'=>exact⟨a.1,a.2.1,a.2.2.1,fun j hj=>a.2.2.2 j fun q=>hj (h j q)⟩
    |_=>simp at a
  |map es k=>
    cases Z with
    |map es' k'=>trivial
    |_=>simp at a
  |loop r=>
    cases Z with
    |loop r'=>trivial
    |_=>simp at a
  |stringIter z k=>
    cases Z with
    |stringIter z' k'=>trivial
    |_=>simp at a
  |_=>simp at a;subst a;rfl
namespace Lay
def FL:T i_:=F.A_ 5 fn5
def h0:a_:=⟨(T.e:T Y5).A_ 0 (.a gq 0 0),1,.e⟩
def LT(h:a_):Bool:=match h.S.c_ 0,h.Q.c_ 0 with
  |some (.a c f _),none=>R1 (.B c) (.B gq)&&Nat.beq f 0
  |_,_=>false
def N0:Bool:=match k? (fun _ _ _=>none) FL 60 5 [] h0 with
  |some (.h true,h)=>LT h
  |_=>false
theorem Eb:N0=true:=by decide+kernel
theorem Pv:DG Go.Proofs.Tryz.prog 1 FL:=by
  intro f fn h;unfold FL at h;rw[Xr]at h;by_cases c:f=5
  ·rw[if_pos c]at h;cases h;subst c;exact OB
  ·rw[if_neg c]at h;exact LZ f fn h
theorem Eu:∃h1,k? (fun _ _ _=>none) FL 60 5 [] h0=some (.h true,h1)/\(∃k,h1.S.c_ 0=some (.a gq 0 k))/\h1.Q.c_ 0=none:=by
  have r:=Eb;unfold N0 at r;split at r
  ·rename_i h e;refine⟨h,e,?_⟩;unfold LT at r;split at r
   ·rename_i c f k K hf;simp only[VY]at r;have e1:=qe _ _ r.1;have Z:=Wb r.2;cases e1;subst Z;exact⟨⟨k,K⟩,hf⟩
   ·cases r
  ·cases r
theorem yT(m m':M)(v:V)(x:Value)(h:v∈gq)(r:l_ m v x):l_ m' v x:=by
  simp[gq]at h;obtain⟨n,_,rfl⟩:=h;exact r
abbrev KP:LG->Prop:=F? Go.Proofs.Tryz.prog 1
theorem N7:eR Go.Proofs.Tryz.prog KP 1 lov:=by
  intro f vs h v h' e;unfold lov at e;split at e;case isFalse=>cases e
  rename_i c;obtain⟨rfl,rfl,pl⟩:=c;cases e;obtain⟨h1,run,⟨k1,b1⟩,f1⟩:=Eu;obtain⟨info,S⟩:=(wE (P:=Go.Proofs.Tryz.prog) (G:=1) (ov:=fun _ _ _=>none) (fun _ _ _ _ _ e=>by cases e) Pv 60 5 [] h0 _ h1 run).1 (by decide);refine⟨fun _=>⟨info,fun m w args ha H hG=>?_⟩,fun q=>absurd q (by decide)⟩;obtain⟨⟨k,hb⟩,hf⟩:=pl;obtain⟨r,hr⟩:=hG.1 0 (by omega);obtain⟨m0,hm0⟩:∃m0:M,m0=fun p=>if p=0 then some ⟨0,0,r,none⟩else none:=⟨_,rfl⟩;have z0:m0 0=some ⟨0,0,r,none⟩:=by rw[hm0];rfl
  have z1:∀p loc,m0 p=some loc→p=0∧loc=⟨0,0,r,none⟩:=by
    intro p loc hp;rw[hm0]at hp;by_cases c:p=0
    ·simp[if_pos c]at hp;exact⟨c,hp.symm⟩
    ·simp[if_neg c]at hp
  obtain⟨bk,hbk,rel⟩:=H.c 0 _ hr;rw[hb]at hbk;cases hbk;have rd0:rd h 0 0 k=true:=by unfold rd;rw[hf]
  obtain⟨C,el,fz,hC,c1,c2,c3,c4⟩:=rel rd0;have g0:h0.S.c_ 0=some (.a gq 0 0):=by unfold h0;rw[T.K_]
  have gn:∀p,p≠0→h0.S.c_ p=none:=fun p hp=>by unfold h0;rw[T.v_ _ _ hp];rfl
  have H0:r_ m0 h0 w:=by
    refine⟨⟨?_,?_⟩,?_,?_,?_⟩
    ·intro p c f k' hp;by_cases q:p=0
     ·subst q;rw[g0]at hp;cases hp;rfl
     ·rw[gn p q]at hp;cases hp
    ·intro p hp;have hp1:1≤p:=hp;exact⟨gn p (by omega),rfl⟩
    ·intro p loc hp;obtain⟨rfl,rfl⟩:=z1 p loc hp;exact⟨_,g0,fun _=>⟨C,el,fz,hC,c1,c2,fun i v hi=>by
       obtain⟨x,hx,rx⟩:=c3 i v hi;exact⟨x,hx,yT m m0 v x (List.mem_of_getElem? hi) rx⟩,c4⟩⟩
    ·intro p loc hp;obtain⟨rfl,rfl⟩:=z1 p loc hp;exact H.a 0 _ hr
    ·intro p q lp lq hp hq _ hne;exact absurd ((z1 p lp hp).1.trans (z1 q lq hq).1.symm) hne
  have G0:V1 KP 1 m0:=⟨fun g hg=>⟨r,by have:g=0:=(by omega);subst this;exact z0⟩,fun p loc g hp hl=>by rw[(z1 p loc hp).2]at hl;cases hl⟩;have ea:args=[]:=ha;subst ea;have key:∀e w',ng m0 h0 w (.h true) h1 e w'→ng m h w (.h true) h e w':=by
   rintro e w' ⟨x,m1,he,rx,H1,E⟩;refine⟨x,m,he,rx,?_,?_⟩
   ·have only:∀p loc,m p=some loc→loc.a=0→p=0:=by
      intro p loc hp hl;by_cases q:p=0
      ·exact q
      ·obtain⟨cp,cq,f,kp,kq,a1,a2,_⟩:=H.d p 0 loc _ hp hr hl q;rw[hb]at a2;cases a2;have:=H.g.b _ _ _ _ a1;rw[hf]at this;exact this.symm
    refine⟨H.g,fun p loc hp=>?_,fun p loc hp=>Nat.lt_of_lt_of_le (H.a p loc hp) E.c,H.d⟩;by_cases hl:loc.a=0
    ·have:=only p loc hp hl;subst this;rw[hr]at hp;cases hp;refine⟨_,hb,fun _=>?_⟩;obtain⟨bk,hbk,rel1⟩:=H1.c 0 _ (E.j _ _ z0);rw[b1]at hbk;cases hbk;obtain⟨C',el',fz',hC',d1,d2,d3,d4⟩:=rel1 (by unfold rd;rw[f1]);exact⟨C',el',fz',hC',d1,d2,fun i v hi=>by
       obtain⟨x,hx,rx⟩:=d3 i v hi;exact⟨x,hx,yT m1 m v x (List.mem_of_getElem? hi) rx⟩,d4⟩
    ·obtain⟨b,hbb,rb⟩:=H.c p loc hp;exact⟨b,hbb,rb.mono (fun _ _ x=>x) (fun _ _ _ _ x=>x) (E.e loc.a (fun q lq hq=>by obtain⟨rfl,rfl⟩:=z1 q lq hq;exact fun e=>hl e.symm) (H.a p loc hp))⟩
   ·have cv:∀b j,b? m0 b j→b? m b j:=by
      rintro b j ⟨p,loc,hp,q1,q2,q3⟩;obtain⟨rfl,rfl⟩:=z1 p loc hp;exact⟨0,_,hr,q1,q2,q3⟩
    refine⟨fun _ _ x=>x,fun _ _ a b=>by simp[a]at b,Nat.le_refl _,fun _ _ _=>rfl,E.c,fun b hb hlt=>E.e b (fun q lq hq=>by obtain⟨rfl,rfl⟩:=z1 q lq hq;exact hb 0 _ hr) hlt,E.s,E.g,E.d,fun _ _ _ x=>x,fun b hb=>(E.n b hb).e (cv b),fun _ _ a b=>by simp[a]at b⟩
  exact⟨(S m0 w [] rfl H0 G0).1.mono key,fun u=>CallsDIn.mono ((S m0 w [] rfl H0 G0).2 u) (fun e u' w' q=>⟨q.1,key e w' q.2⟩)⟩
theorem Pt:eR Go.Proofs.Tryz.prog KP 1 go:=Il N7 LZ
end Lay
end Go.Ev
