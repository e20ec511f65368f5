/- An evaluator of the program, and contracts over it: TxL to MsN. -/
import Derived.Test.YthhhghfnhbocnaaGreatDoorP07
import Derived.Test.YthhhghfnhbocnaaGreatDoorP09
import Derived.Test.YthhhghfnhbocnaaGreatDoorP10
set_option linter.unusedSimpArgs false
set_option linter.unusedVariables false
set_option linter.constructorNameAsVariable false
set_option linter.unnecessarySimpa false
namespace Go.Ev.Lay
set_option maxRecDepth 4000
/-- a row that can be written -/
def rOK(r:Rw):Prop:=r.nd.ct.wds∧Good r.nd.ct∧(∃K:Nat,r.key=(K:Int)∧K<18446744073709551616)∧R64 r.top∧R64 r.sz∧r.nd.ct.txt.length≤1099511627776
/-- one whose tree is none -/
def rBad(r:Rw):Prop:=NT.count r.nd.k r.nd.tg r.nd.ky r.nd.at' r.nd.tx r.nd.sub=0
def rowT:Str:=[114,111,119]
def headT:Str:=[104,101,97,100]
def offT(o:Int):Str:=[111,102,102,115,101,116,32]++decI o++[10]
def rLine(p:Str)(r:Rw):Str:=lineT p r.c r.nd.ct.txt
section
variable {h : Heap} {r : Rw} {p : Str}
theorem wOk(w:WF h)(Tb0:Tb h)(hp:0<h.next)(ha:RwH h r)(g:rOK r)(lp:p.length≤8):Does go 29 [.str p,.agg r.cells] h fun u h'=>u=.tup [.str (rLine p r),.int .i64 0]∧Fr [] h h':=by
  obtain⟨wd,g,⟨K,hk,hK⟩,ht,hs,lt⟩:=g;exact swrite_ok w Tb0 hp ha wd g hk hK ht hs lp lt
theorem wBad(w:WF h)(ha:RwH h r)(g:rBad r):Does go 29 [.str p,.agg r.cells] h fun u h'=>u=.tup [.str [],.int .i64 14]∧Fr [] h h':=by
  obtain⟨h1,e_h1⟩:∃h1,h1=halloc h r.cells:=⟨_,rfl⟩;have F_h1:Fr [] h h1:=e_h1▸Fr.halloc w _;have o_h1:Own h1 h.next r.cells:=e_h1▸Own.new w _;have t3:hload h1 h.next 3 6=some r.nd.cells:=by rw[o_h1.ld];rfl
  refine does_fn g29 rfl ?_;simp(maxSteps:=1000000) (disch:=omega) only[fn29,evs,↓reduceIte,Nat.reduceEqDiff,Nat.reduceAdd,Nat.reduceMul,Nat.reduceLeDiff,Nat.reduceLT,Int.reduceNeg,DF,eff,Nat.reduceSub,fwrap_i64,←e_h1,t3];refine OQ_does (text_bad F_h1.wf (ha.fr F_h1) g) ?_;rintro _ h2 ⟨rfl,F2⟩;simp(maxSteps:=1000000) (disch:=omega) only[evs,↓reduceIte,Nat.reduceEqDiff,Nat.reduceAdd,Nat.reduceMul,Nat.reduceLeDiff,Nat.reduceLT,Int.reduceNeg,DF,eff,Nat.reduceSub,fwrap_i64];exact F_h1.then F2
theorem zero_ok(w:WF h)(ha:RwH h r):Does go 26 [.agg r.cells] h fun u h'=>u=.bool (sameB r.c zR.c)∧Fr [] h h':=by
  have one:=ha.one;obtain⟨h1,e_h1⟩:∃h1,h1=halloc h r.cells:=⟨_,rfl⟩;have F_h1:Fr [] h h1:=e_h1▸Fr.halloc w _;have o_h1:Own h1 h.next r.cells:=e_h1▸Own.new w _;have lx:hload h1 h.next 0 9=some r.cells:=by rw[o_h1.ld];rfl
  refine does_fn g26 rfl ?_;simp(maxSteps:=1000000) (disch:=omega) only[fn26,evs,↓reduceIte,Nat.reduceEqDiff,Nat.reduceAdd,Nat.reduceMul,Nat.reduceLeDiff,Nat.reduceLT,Int.reduceNeg,DF,eff,Nat.reduceSub,fwrap_i64,←e_h1,lx];refine OQ_does (ssame_ok F_h1.wf (ha.fr F_h1) (b:=zR) (zR_ok _)) ?_;rintro _ h2 ⟨rfl,F2⟩;simp(maxSteps:=1000000) (disch:=omega) only[evs,↓reduceIte,Nat.reduceEqDiff,Nat.reduceAdd,Nat.reduceMul,Nat.reduceLeDiff,Nat.reduceLT,Int.reduceNeg,DF,eff,Nat.reduceSub,fwrap_i64];exact F_h1.then F2
end
def sT(s:Sc):Str:=offT s.off++s.rows.flatMap (rLine rowT)++(if s.pin=true then rLine headT s.hd else[])
abbrev E14:V:=.tup [.str [],.int .i64 14]
theorem sNone_ok{h:Heap}{s:Sc}(w:WF h)(ha:ScH h s)(hpin:s.pin=false)(hz:sameB s.hd.c zR.c=false):Does go 13 [.agg s.cells] h fun u h'=>u=.tup [.str [],.int .i64 1]∧Fr [] h h':=by
  have one:=ha.one;obtain⟨h1,e_h1⟩:∃h1,h1=halloc h s.cells:=⟨_,rfl⟩;have F_h1:Fr [] h h1:=e_h1▸Fr.halloc w _;have o_h1:Own h1 h.next s.cells:=e_h1▸Own.new w _;have l2:hload1 h1 h.next 2=some (.bool s.pin):=o_h1.ld1 2;have l3:hload h1 h.next 3 9=some s.hd.cells:=by rw[o_h1.ld];rfl
  rw[hpin]at l2;refine does_fn g13 rfl ?_;simp(maxSteps:=1000000) (disch:=omega) only[fn13,evs,↓reduceIte,Nat.reduceEqDiff,Nat.reduceAdd,Nat.reduceMul,Nat.reduceLeDiff,Nat.reduceLT,Int.reduceNeg,DF,eff,Nat.reduceSub,fwrap_i64,←e_h1,l2,l3];refine OQ_does (zero_ok F_h1.wf (ha.2.fr F_h1)) ?_;rintro _ h2 ⟨rfl,F2⟩;rw[hz];simp(maxSteps:=1000000) (disch:=omega) only[evs,↓reduceIte,Nat.reduceEqDiff,Nat.reduceAdd,Nat.reduceMul,Nat.reduceLeDiff,Nat.reduceLT,Int.reduceNeg,DF,eff,Nat.reduceSub,fwrap_i64];exact F_h1.then F2
def hT(s:Sc):Str:=if s.pin=true then rLine headT s.hd else[]
section
variable {B b c : Nat} {h0 hh : Heap} {v0 v : V} {z : Str} {env : T V} {s : Sc} {hb : Bool} {Q : Ex → T V → Heap → Prop}
theorem Ws.off{u:V}{h2:Heap}(X:Ws B b h0 v0 hh v z)(f:Fr (b::vb v) hh h2)(e:u=u):Fr (b::vb v0) h0 h2:=(X.bw.trans X.w0 ⟨f,fun _ m=>.inl m⟩:Bw b v0 h0 h2 v).1
theorem stC_ok(X:Ws B b h0 v0 hh v z)(Tb0:Tb h0)(oc:Own h0 c s.cells)(hc:c∉b::vb v0)(st:Stab (fun x=>x<B) h0 fun h=>RwH h s.hd)(hb1:hb=true→rBad s.hd)(hb0:s.pin=true→hb=false→rOK s.hd)
    (g1:env.get 1=some (.ptr c 0)) (g4:env.get 4=some (.ptr b 0)) (hl:z.length+(hT s).length≤1048576)
    (kE:∀env' h',s.pin=true→hb=true→env'.get 2=some (.str [])→env'.get 3=some (.int .i64 14)→Fr (b::vb v0) h0 h'→Q .ret env' h')
    (kT:∀env' h',(s.pin=true→hb=false)→env'.get 2=some (.str (z++hT s))→env'.get 3=some (.int .i64 0)→Fr (b::vb v0) h0 h'→Q .ret env' h'):W go stC env hh Q:=by
  have o:Own hh c s.cells:=X.bw.1.own _ _ hc oc;have l2:hload1 hh c 2=some (.bool s.pin):=o.ld1 2;have l3:hload hh c 3 9=some s.hd.cells:=by rw[o.ld];rfl
  have np:0<hh.next:=by have:=X.hB;have:=X.hp;have:=X.bw.1.next;omega
  have H:=(X.stab st).now X.w;cases pn:s.pin with
  |false=>
    rw[pn]at l2;have e:hT s=[]:=by simp[hT,pn]
    rw[e]at hl kT;simp only[List.length_nil]at hl;simp(maxSteps:=1000000) (disch:=omega) only[evs,↓reduceIte,Nat.reduceEqDiff,Nat.reduceAdd,Nat.reduceMul,Nat.reduceLeDiff,Nat.reduceLT,Int.reduceNeg,DF,eff,Nat.reduceSub,fwrap_i64,stC,g1,g4,l2];refine OQ_does (builderLen_ok X.d) ?_;rintro _ _ ⟨rfl,rfl⟩;simp(maxSteps:=1000000) (disch:=omega) only[evs,↓reduceIte,Nat.reduceEqDiff,Nat.reduceAdd,Nat.reduceMul,Nat.reduceLeDiff,Nat.reduceLT,Int.reduceNeg,DF,eff,Nat.reduceSub,fwrap_i64,show¬(1048576:Int)<(z.length:Int) by omega,g4];refine OQ_does (builderString_ok X.w X.d (by omega)) ?_;rintro _ h3 ⟨rfl,F3⟩;simp(maxSteps:=1000000) (disch:=omega) only[evs,↓reduceIte,Nat.reduceEqDiff,Nat.reduceAdd,Nat.reduceMul,Nat.reduceLeDiff,Nat.reduceLT,Int.reduceNeg,DF,eff,Nat.reduceSub,fwrap_i64];exact kT _ _ (fun q=>by rw[pn]at q;cases q) (by simp[T.get_set]) (by simp[T.get_set]) (X.off (u:=v) F3 rfl)
  |true=>
    rw[pn]at l2;cases hbb:hb with
    |true=>
      simp(maxSteps:=1000000) (disch:=omega) only[evs,↓reduceIte,Nat.reduceEqDiff,Nat.reduceAdd,Nat.reduceMul,Nat.reduceLeDiff,Nat.reduceLT,Int.reduceNeg,DF,eff,Nat.reduceSub,fwrap_i64,stC,g1,g4,l2,l3];refine OQ_does (wBad X.w H (hb1 hbb)) ?_;rintro _ h2 ⟨rfl,F2⟩;simp(maxSteps:=1000000) (disch:=omega) only[evs,↓reduceIte,Nat.reduceEqDiff,Nat.reduceAdd,Nat.reduceMul,Nat.reduceLeDiff,Nat.reduceLT,Int.reduceNeg,DF,eff,Nat.reduceSub,fwrap_i64];exact kE _ _ pn hbb (by simp[T.get_set]) (by simp[T.get_set]) (X.fr F2).bw.1
    |false=>
      have e:hT s=rLine headT s.hd:=by simp[hT,pn]
      rw[e]at hl kT;simp(maxSteps:=1000000) (disch:=omega) only[evs,↓reduceIte,Nat.reduceEqDiff,Nat.reduceAdd,Nat.reduceMul,Nat.reduceLeDiff,Nat.reduceLT,Int.reduceNeg,DF,eff,Nat.reduceSub,fwrap_i64,stC,g1,g4,l2,l3];refine OQ_does (wOk X.w (X.tb Tb0) np H (hb0 pn hbb) (by decide)) ?_;rintro _ h2 ⟨rfl,F2⟩;simp(maxSteps:=1000000) (disch:=omega) only[evs,↓reduceIte,Nat.reduceEqDiff,Nat.reduceAdd,Nat.reduceMul,Nat.reduceLeDiff,Nat.reduceLT,Int.reduceNeg,DF,eff,Nat.reduceSub,fwrap_i64,g4];refine(X.fr F2).write (s:=rLine headT s.hd) (by omega) ?_;intro h3 v3 W3;simp(maxSteps:=1000000) (disch:=omega) only[evs,↓reduceIte,Nat.reduceEqDiff,Nat.reduceAdd,Nat.reduceMul,Nat.reduceLeDiff,Nat.reduceLT,Int.reduceNeg,DF,eff,Nat.reduceSub,fwrap_i64,g4];refine OQ_does (builderLen_ok W3.d) ?_;rintro _ _ ⟨rfl,rfl⟩;have lw:(z++rLine headT s.hd).length≤1048576:=by rw[List.length_append];exact hl
      simp(maxSteps:=1000000) (disch:=omega) only[evs,↓reduceIte,Nat.reduceEqDiff,Nat.reduceAdd,Nat.reduceMul,Nat.reduceLeDiff,Nat.reduceLT,Int.reduceNeg,DF,eff,Nat.reduceSub,fwrap_i64,show¬(1048576:Int)<((z++rLine headT s.hd).length:Int) by omega,g4];refine OQ_does (builderString_ok W3.w W3.d (show(z++rLine headT s.hd).length<9223372036854775808 by omega)) ?_;rintro _ h4 ⟨rfl,F4⟩;simp(maxSteps:=1000000) (disch:=omega) only[evs,↓reduceIte,Nat.reduceEqDiff,Nat.reduceAdd,Nat.reduceMul,Nat.reduceLeDiff,Nat.reduceLT,Int.reduceNeg,DF,eff,Nat.reduceSub,fwrap_i64];exact kT _ _ (fun _=>hbb) (by simp[T.get_set]) (by simp[T.get_set]) (W3.off (u:=v) F4 rfl)
end
set_option maxRecDepth 4000
abbrev zNine:List V:=[.int .u64 0,.int .i64 0,.int .i64 0,.int .u8 0,.str [],.str [],.nils,.str [],.nils]
section
variable {c m : Nat} {hh : Heap} {env : T V} {s : Sc} {hb : Bool} {Q : Ex → T V → Heap → Prop}
theorem stB_ok(w:WF hh)(Tb0:Tb hh)(hp:0<hh.next)(o:Own hh c s.cells)(ha:ScH hh s)(ho:R64 s.off)(hm:m≤s.rows.length)(ok:∀i r,i<m→s.rows[i]? =some r→rOK r)(bad:∀r,s.rows[m]? =some r→rBad r)
    (hb1:hb=true→rBad s.hd) (hb0:s.pin=true→hb=false→rOK s.hd) (g1:env.get 1=some (.ptr c 0)) (len:(sT s).length≤1048576)
    (kE:∀env' h',(m<s.rows.length∨(s.pin=true∧hb=true))→env'.get 2=some (.str [])→env'.get 3=some (.int .i64 14)→Fr [] hh h'→Q .ret env' h')
    (kT:∀env' h',¬(m<s.rows.length∨(s.pin=true∧hb=true))→env'.get 2=some (.str (sT s))→env'.get 3=some (.int .i64 0)→Fr [] hh h'→Q .ret env' h'):W go stB env hh Q:=by
  have bnd:=ha.1.2.2;have lo:=decI_len ho;obtain⟨d1,F1⟩:=Bd.new w;obtain⟨h1,e1⟩:∃h1,h1=htag (halloc hh [.nilp,.nils]) hh.next 72 2:=⟨_,rfl⟩;rw[←e1]at d1 F1;have X:Ws hh.next hh.next h1 .nils h1 .nils []:=Ws.new F1.wf d1 (by simp[vb]) (Nat.le_refl _) F1.next hp;have T1:Tb h1:=Tb0.fr F1 (by simp);have o1:=F1.get o;have hcl:=o.lt w;have hc:c∉hh.next::vb .nils:=by simp[vb];omega
  have back:∀{h'},Fr (hh.next::vb .nils) h1 h'→Fr [] hh h':=fun f=>F1.trans f w (by simp) (fun x m=>.inr (by simp[vb]at m;omega));have st:Stab (fun x=>x<hh.next) h1 fun h=>ScH h s:=(Stab.below w fun h' f=>ha.fr f).fr0 w F1;have sL:sT s=offT s.off++s.rows.flatMap (rLine rowT)++hT s:=rfl;have lO:(offT s.off).length=8+(decI s.off).length:=by simp[offT];omega
  have len':=len;rw[sL]at len';simp only[List.length_append]at len';have l0:hload1 h1 c 0=some (.int .i64 s.off):=o1.ld1 0;simp(maxSteps:=1000000) (disch:=omega) only[evs,↓reduceIte,Nat.reduceEqDiff,Nat.reduceAdd,Nat.reduceMul,Nat.reduceLeDiff,Nat.reduceLT,Int.reduceNeg,DF,eff,Nat.reduceSub,fwrap_i64,stB,op_ux,ux_some,ux_alt,List.length_cons,List.length_nil,←e1,g1,l0];refine OQ_does (fmtI10_ok F1.wf T1 ho) ?_;rintro _ h2 ⟨rfl,F2⟩;simp(maxSteps:=1000000) (disch:=omega) only[evs,↓reduceIte,Nat.reduceEqDiff,Nat.reduceAdd,Nat.reduceMul,Nat.reduceLeDiff,Nat.reduceLT,Int.reduceNeg,DF,eff,Nat.reduceSub,fwrap_i64,aP_sba [111,102,102,115,101,116,32] (decI s.off) (by simp only[List.length_cons,List.length_nil];omega),aP_sba (111::102::102::115::101::116::32::decI s.off) [10] (by simp only[List.length_cons,List.length_nil];omega)];refine(X.fr F2).write (s:=offT s.off) (by simp only[List.length_nil];omega) ?_;intro h3 v3 W3;have l1:hload1 h3 c 1=some s.vr:=(W3.bw.1.own _ _ hc o1).ld1 1;have rr3:=((W3.stab st).now W3.w).1.1;simp(maxSteps:=1000000) (disch:=omega) only[evs,↓reduceIte,Nat.reduceEqDiff,Nat.reduceAdd,Nat.reduceMul,Nat.reduceLeDiff,Nat.reduceLT,Int.reduceNeg,DF,eff,Nat.reduceSub,fwrap_i64,g1,l1,rr3.len];refine W_loop (fun n env h=>∃(i:Nat)(v':V),Ws hh.next hh.next h1 .nils h v' (offT s.off++(s.rows.take i).flatMap (rLine rowT))∧env.get 29=some (.int .i64 i)∧env.get 28=some (.int .i64 s.rows.length)∧env.get 27=some s.vr∧env.get 1=some (.ptr c 0)∧env.get 4=some (.ptr hh.next 0)∧i≤m∧n=s.rows.length-i) s.rows.length (by omega) ?_ ?_
  ·exact⟨0,v3,by simpa using W3,(by simp[T.get_set]),(by simp[T.get_set]),(by simp[T.get_set]),(by simp[T.get_set,g1]),(by simp[T.get_set]),by omega,rfl⟩
  ·rintro n env h ⟨i,v',W',g29,g28,g27,g1,g4,hi,rfl⟩;have H':=(W'.stab st).now W'.w;have np:hh.next≤h.next:=Nat.le_trans F1.next W'.bw.1.next;by_cases ci:i<s.rows.length
   ·obtain⟨b1,o1',x,p1,_,p3,p4⟩:=H'.1.1.ix Rw.len .i64 (i:Int) (by omega) (by omega);rw[Int.toNat_natCast]at p4;have sx:Stab (fun y=>y<hh.next) h1 fun h=>RwH h x:=st.imp fun h q=>q.1.2.1 x (List.mem_of_getElem? p4);have lt2:=take_le (rLine rowT) s.rows (i+1);rw[take_flat p4,List.length_append]at lt2;obtain⟨h4,e_h4⟩:∃h4,h4=halloc h zNine:=⟨_,rfl⟩;have F_h4:Fr [] h h4:=e_h4▸Fr.halloc W'.w _;have o_h4:Own h4 h.next zNine:=e_h4▸Own.new W'.w _;simp(maxSteps:=1000000) (disch:=omega) only[evs,↓reduceIte,Nat.reduceEqDiff,Nat.reduceAdd,Nat.reduceMul,Nat.reduceLeDiff,Nat.reduceLT,Int.reduceNeg,DF,eff,Nat.reduceSub,fwrap_i64,g29,g28,g27,g1,g4,show(i:Int)<s.rows.length by omega,p1,p3,←e_h4];refine store_step (c':=x.cells) F_h4.wf o_h4 rfl ((W'.stab sx).now W'.w).one rfl ?_;intro h5 q5 F5 n5;have F05:Fr [] h h5:=F_h4.fresh F5 W'.w (Nat.le_refl _);have lx:hload h5 h.next 0 9=some x.cells:=by rw[q5.ld];rfl
    have W5:=W'.fr F05;have n05:=F05.next;by_cases cm:i<m
    ·simp(maxSteps:=1000000) (disch:=omega) only[evs,↓reduceIte,Nat.reduceEqDiff,Nat.reduceAdd,Nat.reduceMul,Nat.reduceLeDiff,Nat.reduceLT,Int.reduceNeg,DF,eff,Nat.reduceSub,fwrap_i64,g29,g28,g27,g1,g4,lx];refine OQ_does (wOk W5.w (W5.tb T1) (by omega) ((W5.stab sx).now W5.w) (ok i x cm p4) (by decide)) ?_;rintro _ h6 ⟨rfl,F6⟩;simp(maxSteps:=1000000) (disch:=omega) only[evs,↓reduceIte,Nat.reduceEqDiff,Nat.reduceAdd,Nat.reduceMul,Nat.reduceLeDiff,Nat.reduceLT,Int.reduceNeg,DF,eff,Nat.reduceSub,fwrap_i64,g29,g28,g27,g1,g4];refine(W5.fr F6).write (s:=rLine rowT x) (by rw[List.length_append];omega) ?_;intro h7 v7 W7;simp(maxSteps:=1000000) (disch:=omega) only[evs,↓reduceIte,Nat.reduceEqDiff,Nat.reduceAdd,Nat.reduceMul,Nat.reduceLeDiff,Nat.reduceLT,Int.reduceNeg,DF,eff,Nat.reduceSub,fwrap_i64,g29,g28,g27,g1,g4];refine(roundQ_norm _ _ _).2 ⟨s.rows.length-(i+1),by omega,i+1,v7,by rw[take_flat p4,←List.append_assoc];exact W7,(by simp[T.get_set]),(by simp[T.get_set,g28]),(by simp[T.get_set,g27]),(by simp[T.get_set,g1]),(by simp[T.get_set,g4]),by omega,rfl⟩
     done
    ·have:i=m:=by omega
     subst this;simp(maxSteps:=1000000) (disch:=omega) only[evs,↓reduceIte,Nat.reduceEqDiff,Nat.reduceAdd,Nat.reduceMul,Nat.reduceLeDiff,Nat.reduceLT,Int.reduceNeg,DF,eff,Nat.reduceSub,fwrap_i64,g29,g28,g27,g1,g4,lx];refine OQ_does (wBad W5.w ((W5.stab sx).now W5.w) (bad x p4)) ?_;rintro _ h6 ⟨rfl,F6⟩;simp(maxSteps:=1000000) (disch:=omega) only[evs,↓reduceIte,Nat.reduceEqDiff,Nat.reduceAdd,Nat.reduceMul,Nat.reduceLeDiff,Nat.reduceLT,Int.reduceNeg,DF,eff,Nat.reduceSub,fwrap_i64,g29,g28,g27,g1,g4];exact kE _ _ (.inl ci) (by simp[T.get_set]) (by simp[T.get_set]) (back (W5.fr F6).bw.1)
   ·have hml:m=s.rows.length:=by omega
    simp(maxSteps:=1000000) (disch:=omega) only[evs,↓reduceIte,Nat.reduceEqDiff,Nat.reduceAdd,Nat.reduceMul,Nat.reduceLeDiff,Nat.reduceLT,Int.reduceNeg,DF,eff,Nat.reduceSub,fwrap_i64,g29,g28,g27,g1,g4,show¬(i:Int)<s.rows.length by omega];rw[List.take_of_length_le (by omega)]at W';refine stC_ok W' T1 o1 hc (st.imp fun h q=>q.2) hb1 hb0 (by simp[T.get_set,g1]) (by simp[T.get_set,g4]) (by rw[List.length_append];omega) ?_ ?_
    ·intro env' h' q1 q2 e2 e3 f;exact kE _ _ (.inr ⟨q1,q2⟩) e2 e3 (back f)
    ·intro env' h' q e2 e3 f;exact kT _ _ (by rintro(q1|⟨q1,q2⟩);omega;rw[q q1]at q2;cases q2) e2 e3 (back f)
end
theorem sText_ok{h:Heap}{s:Sc}{m:Nat}{hb:Bool}(w:WF h)(Tb0:Tb h)(hp:0<h.next)(ha:ScH h s)(ho:R64 s.off)(hm:m≤s.rows.length)(ok:∀i r,i<m→s.rows[i]? =some r→rOK r)(bad:∀r,s.rows[m]? =some r→rBad r)
    (hz:s.pin=true∨sameB s.hd.c zR.c=true) (hb1:hb=true→rBad s.hd) (hb0:s.pin=true→hb=false→rOK s.hd) (len:(sT s).length≤1048576):
    Does go 13 [.agg s.cells] h fun u h'=>u=(if m<s.rows.length∨(s.pin=true∧hb=true)then E14 else .tup [.str (sT s),.int .i64 0])∧Fr [] h h':=by
  have one:=ha.one;obtain⟨h1,e_h1⟩:∃h1,h1=halloc h s.cells:=⟨_,rfl⟩;have F_h1:Fr [] h h1:=e_h1▸Fr.halloc w _;have o_h1:Own h1 h.next s.cells:=e_h1▸Own.new w _;have n1:=F_h1.next;have l2:hload1 h1 h.next 2=some (.bool s.pin):=o_h1.ld1 2;have l3:hload h1 h.next 3 9=some s.hd.cells:=by rw[o_h1.ld];rfl
  have door:∀{h2}(env:T V),Fr [] h1 h2→env.get 1=some (.ptr h.next 0)→W go stB env h2 (RetQ [.t 2,.t 3] fun u h'=>u=(if m<s.rows.length∨(s.pin=true∧hb=true)then E14 else .tup [.str (sT s),.int .i64 0])∧Fr [] h h'):=by
    intro h2 env f g1;have f0:=F_h1.then f;refine stB_ok f.wf (Tb0.fr f0 (by simp)) (by have:=f.next;omega) (f.get o_h1) (ha.fr f0) ho hm ok bad hb1 hb0 g1 len ?_ ?_
    ·intro env' h' q e2 e3 F;simp(maxSteps:=1000000) (disch:=omega) only[evs,↓reduceIte,Nat.reduceEqDiff,Nat.reduceAdd,Nat.reduceMul,Nat.reduceLeDiff,Nat.reduceLT,Int.reduceNeg,DF,eff,Nat.reduceSub,fwrap_i64,e2,e3];exact⟨by rw[if_pos q],f0.then F⟩
    ·intro env' h' q e2 e3 F;simp(maxSteps:=1000000) (disch:=omega) only[evs,↓reduceIte,Nat.reduceEqDiff,Nat.reduceAdd,Nat.reduceMul,Nat.reduceLeDiff,Nat.reduceLT,Int.reduceNeg,DF,eff,Nat.reduceSub,fwrap_i64,e2,e3];exact⟨by rw[if_neg q],f0.then F⟩
  by_cases pn:s.pin=true
  ·rw[pn]at l2;refine does_fn g13x rfl ?_;simp(maxSteps:=1000000) (disch:=omega) only[evs,↓reduceIte,Nat.reduceEqDiff,Nat.reduceAdd,Nat.reduceMul,Nat.reduceLeDiff,Nat.reduceLT,Int.reduceNeg,DF,eff,Nat.reduceSub,fwrap_i64,fn13x,←e_h1,l2];refine door _ (Fr.refl F_h1.wf) ?_;simp[T.get_set]
  ·have pf:s.pin=false:=by simpa using pn
   rw[pf]at l2;refine does_fn g13x rfl ?_;simp(maxSteps:=1000000) (disch:=omega) only[evs,↓reduceIte,Nat.reduceEqDiff,Nat.reduceAdd,Nat.reduceMul,Nat.reduceLeDiff,Nat.reduceLT,Int.reduceNeg,DF,eff,Nat.reduceSub,fwrap_i64,fn13x,←e_h1,l2,l3];refine OQ_does (zero_ok F_h1.wf (ha.2.fr F_h1)) ?_;rintro _ h2 ⟨rfl,F2⟩;rw[hz.resolve_left (by rw[pf];simp)];simp(maxSteps:=1000000) (disch:=omega) only[evs,↓reduceIte,Nat.reduceEqDiff,Nat.reduceAdd,Nat.reduceMul,Nat.reduceLeDiff,Nat.reduceLT,Int.reduceNeg,DF,eff,Nat.reduceSub,fwrap_i64];refine door _ F2 ?_;simp[T.get_set]
theorem vlL_words(n:Nat):vlL n∈words:=by unfold vlL;split;decide;split;decide;split<;>decide
theorem wordL_words(n:Nat):wordL n∈words:=by unfold wordL;split;decide;split;decide;split<;>decide
theorem words_len:∀w∈words,w.length≤8:=by decide
theorem nmL_len(n:Nat):(nmL n).length≤16:=by unfold nmL;split;decide;split<;>decide
theorem tagL_len(n:Nat):(tagL n).length≤16:=by unfold tagL;split;decide;split;decide;split<;>decide
theorem keyL_len(n:Nat):(keyL n).length≤16:=by unfold keyL;split;decide;split;decide;split<;>decide
theorem keyB_len(c:Nat)(ks:List Str):(keyB c ks).length≤16:=by
  unfold keyB;split
  ·split
   ·decide
   ·exact keyL_len _
  ·decide
theorem attU_mem(n:Nat):∀(i:Nat)(p:Str×Str),p∈attU n i→p.2∈words∧p.1.length≤16
  |0,p,m=>by simp[attU]at m
  |i+1,p,m=>by
    rw[attU,List.mem_append]at m;rcases m with m|m
    ·exact attU_mem n i p m
    ·split at m
     ·simp at m;subst m;exact⟨vlL_words _,nmL_len _⟩
     ·simp at m
namespace CT
/-- its texts are drawn ones, its names short -/
def sm:CT→Prop
  |.nil=>True
  |.cons _ tg ky at' tx sub nx=>tx∈words∧(∀p∈at',p.2∈words∧p.1.length≤16)∧at'.length≤3∧tg.length≤16∧ky.length≤16∧sub.sm∧nx.sm
theorem sm_wds:∀{t:CT},t.sm→t.wds
  |.nil,_=>trivial
  |.cons _ _ _ _ _ _ _,⟨a,b,_,_,_,c,d⟩=>⟨a,fun p m=>(b p m).1,sm_wds c,sm_wds d⟩
theorem sm_strip:∀{t:CT},t.sm→t.strip.sm
  |.nil,_=>trivial
  |.cons _ _ _ _ _ _ _,⟨a,b,c,d,_,e,f⟩=>⟨a,b,c,d,by decide,sm_strip e,sm_strip f⟩
theorem attT_len{l:List (Str×Str)}(h:∀p∈l,p.2∈words∧p.1.length≤16):(l.flatMap attT).length≤40*l.length:=by
  induction l with
  |nil=>simp
  |cons p l ih=>
    have a:=h p (by simp);have b:=ih fun q m=>h q (by simp[m]);have c:=quo_len p.2;have d:=words_len _ a.1;have e:(attT p).length=p.1.length+2+(quo p.2).length:=by simp[attT];omega
    rw[List.flatMap_cons,List.length_append,List.length_cons];omega
theorem sm_len:∀{t:CT},t.sm→t.txt.length≤250*t.size
  |.nil,_=>by simp[txt]
  |.cons k tg ky at' tx sub nx,⟨a,b,c,d,e,f,g⟩=>by
    have h1:=sm_len f;have h2:=sm_len g;have h3:=attT_len b;have h4:=quo_len tx;have h5:=words_len _ a;simp only[txt,size,List.length_append];by_cases hk:k=2
    ·rw[if_pos hk];omega
    ·rw[if_neg hk];simp only[List.length_append,List.length_cons];have h6:(if ky=[]then([]:Str)else 58::ky).length≤17:=by split<;>simp<;>omega
     have h7:(if sub.len=0 then([47,62]:Str)else 62::sub.txt++60::47::tg++[62]).length≤sub.txt.length+22:=by
       split
       ·simp only[List.length_cons,List.length_nil];omega
       ·simp only[List.length_append,List.length_cons,List.length_nil];omega
     omega
end CT
theorem bld_sm:∀(f:Nat)(r:List Nat)(lv n:Nat)(ks:List Str),(bld f r lv n ks).1.sm
  |0,_,_,_,_=>trivial
  |_+1,[],_,_,_=>trivial
  |f+1,c::r,lv,n,ks=>by
    rw[bld];split
    ·trivial
    split
    ·exact bld_sm f r lv n ks
    split
    ·exact⟨wordL_words _,by simp,by decide,by decide,by decide,trivial,bld_sm f r lv (n+1) _⟩
    ·refine⟨by decide,attU_mem _ 3,?_,tagL_len _,keyB_len _ _,?_,bld_sm f _ lv (n+1) _⟩
     ·simp only[attU,List.nil_append,List.length_append];have:∀(q:Prop) [Decidable q](x:Str×Str),(if q then[x]else[]).length≤1:=by intro q _ x;split<;>simp
      have a:=this (c/2/2^0%2=1) (nmL 0,vlL (c/2/8+0));have b:=this (c/2/2^1%2=1) (nmL 1,vlL (c/2/8+1));have d:=this (c/2/2^2%2=1) (nmL 2,vlL (c/2/8+2));omega
     ·split
      ·exact bld_sm f r (lv+1) 0 []
      ·trivial
def lwX:IC:=(.seq (.ops [⟨none,.ld 12 true (.v 5),none⟩,⟨none,.cf 13 [.l 0],none⟩,⟨none,.p (.ext 0) [.l 0],none⟩,⟨none,.p (.ext 1) [.l 1],none⟩,⟨none,.p .mv [.l 1],some 13⟩,⟨none,.p .mv [.l 0],some 14⟩]) (.seq (.seq (.ops [⟨none,.p (.ib .neq) [.v 6,.c (.int .i64 0)],some 98⟩]) (.cond (.v 98) (.seq (.ops [⟨none,.p (.ib .eql) [.v 14,.v 6],none⟩,⟨(some (.l 0,true)),.p .mv [.v 13],none⟩,⟨(some (.l 1,true)),.p (.sb .eql) [.l 0,.c (.str [])],none⟩,⟨none,.p .pick [.l 2,.l 0,.c (.bool false)],none⟩,⟨(some (.l 0,true)),.cf 8 [],none⟩,⟨none,.p .pick [.l 1,.l 0,.c (.bool false)],none⟩,⟨none,.p .mv [.l 0],some 4⟩]) (.ret)) (.skip))) (.seq (.ops [⟨none,.p (.ib .eql) [.v 14,.c (.int .i64 0)],none⟩,⟨(some (.l 0,true)),.p .mv [.v 13],none⟩,⟨(some (.l 1,true)),.p .mv [.v 7],none⟩,⟨(some (.l 2,true)),.p (.sb .eql) [.l 1,.l 0],none⟩,⟨none,.p .pick [.l 3,.l 0,.c (.bool false)],none⟩,⟨(some (.l 0,true)),.cf 8 [],none⟩,⟨none,.p .pick [.l 1,.l 0,.c (.bool false)],none⟩,⟨none,.p .mv [.l 0],some 4⟩]) (.ret))))
def lwS:IC:=(.seq (.seq (.ops [⟨none,.p (.ib .rem) [.v 1,.c (.int .u8 4)],some 64⟩]) (.block 2 (.seq (.ops [⟨none,.p (.ib .eql) [.v 64,.c (.int .u8 1)],none⟩,⟨none,.p .mv [.l 0],some 65⟩]) (.cond (.v 65) (.seq (.ops [⟨none,.p (.faddr 2) [.v 5],none⟩,⟨none,.ld 1 false (.l 0),some 68⟩]) (.cond (.v 68) (.seq (.ops [⟨none,.p (.faddr 2) [.v 5],none⟩,⟨none,.st 1 (.l 0) (.c (.bool false)),none⟩]) (.ops [⟨none,.p .mv [.c (.int .i64 1)],some 6⟩])) (.skip))) (.seq (.ops [⟨none,.p (.ib .eql) [.v 64,.c (.int .u8 2)],none⟩,⟨none,.p .mv [.l 0],some 70⟩]) (.cond (.v 70) (.seq (.ops [⟨none,.p (.faddr 1) [.v 5],none⟩,⟨none,.ld 1 false (.l 0),none⟩,⟨none,.p .lenS [.l 0],none⟩,⟨none,.p (.ib .gtr) [.l 0,.c (.int .i64 0)],some 75⟩]) (.cond (.v 75) (.seq (.ops [⟨none,.p (.faddr 1) [.v 5],none⟩,⟨none,.ld 1 false (.l 0),none⟩,⟨none,.p (.faddr 1) [.v 5],none⟩,⟨none,.ld 1 false (.l 0),none⟩,⟨none,.p .lenS [.l 0],none⟩,⟨none,.p (.ib .sub) [.l 0,.c (.int .i64 1)],none⟩,⟨none,.p (.ixs 9) [.l 4,.l 0],none⟩,⟨none,.p (.faddr 3) [.l 0],none⟩,⟨none,.p (.faddr 0) [.l 0],none⟩,⟨none,.st 1 (.l 0) (.c (.int .u8 7)),none⟩]) (.ops [⟨none,.p .mv [.c (.int .i64 14)],some 6⟩])) (.skip))) (.seq (.ops [⟨none,.p (.ib .eql) [.v 64,.c (.int .u8 3)],none⟩,⟨none,.p .mv [.l 0],some 85⟩]) (.cond (.v 85) (.seq (.ops [⟨none,.p (.faddr 2) [.v 5],none⟩,⟨none,.ld 1 false (.l 0),some 88⟩]) (.cond (.v 88) (.seq (.ops [⟨none,.p (.build [(.int .u8 0),(.str []),(.str []),.nils,(.str []),.nils] []) [],none⟩,⟨none,.p (.faddr 3) [.v 5],none⟩,⟨none,.p (.faddr 3) [.l 0],none⟩,⟨none,.st 6 (.l 0) (.l 2),none⟩]) (.ops [⟨none,.p .mv [.c (.int .i64 14)],some 6⟩])) (.skip))) (.skip))))))))) lwX)
def lwP:IC:=(.seq (.seq (.ops [⟨none,.p (.faddr 2) [.v 5],none⟩,⟨none,.ld 1 false (.l 0),some 49⟩]) (.cond (.v 49) (.seq (.ops [⟨none,.p (.faddr 3) [.v 5],none⟩,⟨none,.p (.faddr 3) [.l 0],none⟩,⟨none,.ld 6 true (.l 0),none⟩,⟨none,.cf 11 [.l 0],none⟩,⟨none,.p (.ext 0) [.l 0],none⟩,⟨none,.p (.ext 1) [.l 1],none⟩,⟨none,.p .mv [.l 1],some 11⟩,⟨none,.p .mv [.l 0],none⟩]) (.ops [⟨none,.p .mv [.v 7],none⟩,⟨none,.p (.faddr 3) [.v 5],none⟩,⟨none,.ld 9 true (.l 0),none⟩,⟨none,.cf 12 [.c (.str [104,101,97,100]),.l 0,.v 11],none⟩,⟨none,.p (.sb .add) [.l 3,.l 0],none⟩,⟨none,.p .mv [.l 0],some 7⟩])) (.skip))) lwS)
def lwL:IC:=(.seq (.seq (.ops [⟨none,.p .mv [.c (.int .i64 0)],some 8⟩]) (.block 0 (.loop (.seq (.seq (.ops [⟨none,.p (.faddr 1) [.v 5],none⟩,⟨none,.ld 1 false (.l 0),none⟩,⟨none,.p .lenS [.l 0],none⟩,⟨none,.p (.ib .lss) [.v 8,.l 0],some 26⟩]) (.cond (.v 26) (.skip) (.exit 0))) (.seq (.block 1 (.seq (.ops [⟨none,.p (.faddr 1) [.v 5],none⟩,⟨none,.ld 1 false (.l 0),none⟩,⟨none,.p (.ixs 9) [.l 0,.v 8],none⟩,⟨none,.p (.faddr 3) [.l 0],none⟩,⟨none,.ld 6 true (.l 0),none⟩,⟨none,.cf 11 [.l 0],none⟩,⟨none,.p (.ext 0) [.l 0],none⟩,⟨none,.p (.ext 1) [.l 1],none⟩,⟨none,.p .mv [.l 1],some 9⟩,⟨none,.p .mv [.l 0],none⟩]) (.ops [⟨none,.p .mv [.v 7],none⟩,⟨none,.p (.faddr 1) [.v 5],none⟩,⟨none,.ld 1 false (.l 0),none⟩,⟨none,.p (.ixs 9) [.l 0,.v 8],none⟩,⟨none,.ld 9 true (.l 0),none⟩,⟨none,.cf 12 [.c (.str [114,111,119]),.l 0,.v 9],none⟩,⟨none,.p (.sb .add) [.l 5,.l 0],none⟩,⟨none,.p .mv [.l 0],some 7⟩]))) (.ops [⟨none,.p .mv [.v 8],none⟩,⟨none,.p (.ib .add) [.l 0,.c (.int .i64 1)],none⟩,⟨none,.p .mv [.l 0],some 8⟩])))))) lwP)
def fn4x:IFn:=⟨2,.seq (.ops [⟨none,.bx (.v 0),some 2⟩,⟨none,.p .mv [.c (.bool false)],some 4⟩]) (.seq (.ops [⟨none,.ld 3 true (.v 2),none⟩,⟨none,.cf 9 [.l 0],none⟩,⟨none,.al [(.int .i64 0),.nils,(.bool false),(.int .u64 0),(.int .i64 0),(.int .i64 0),(.int .u8 0),(.str []),(.str []),.nils,(.str []),.nils],some 5⟩,⟨none,.st 12 (.v 5) (.l 0),none⟩]) (.seq (.ops [⟨none,.p .mv [.c (.int .i64 0)],some 6⟩]) (.seq (.ops [⟨none,.p (.faddr 0) [.v 5],none⟩,⟨none,.ld 1 false (.l 0),none⟩,⟨none,.cf 10 [.l 0],none⟩,⟨none,.p (.sb .add) [.c (.str [111,102,102,115,101,116,32]),.l 0],none⟩,⟨none,.p (.sb .add) [.l 0,.c (.str [10])],none⟩,⟨none,.p .mv [.l 0],some 7⟩]) lwL))),[.t 4],[0,1,2,4,5,6,7,8,9,11,13,14,26,49,64,65,68,70,75,85,88,98]⟩
/-- paternoster/paternosterlaw39.SnapshotsDiffer -/
theorem g4x:F.get 4=some fn4x:=rfl
set_option maxRecDepth 4000
section
variable {c : Nat} {h0 hh : Heap} {env : T V} {s : Sc} {e e' : Int} {a y : Str}
theorem lwX_ok(w:WF hh)(F0:Fr [] h0 hh)(Tb0:Tb hh)(o:Own hh c s.cells)(R:Does go 13 [.agg s.cells] hh fun u h'=>u=.tup [.str a,.int .i64 e']∧Fr [] hh h')
    (g5:env.get 5=some (.ptr c 0)) (g6:env.get 6=some (.int .i64 e)) (g7:env.get 7=some (.str y))
    (k:(e≠0∧e'=e∧a=[])∨(e=0∧e'=0∧a=y)):W go lwX env hh (RetQ [.t 4] fun u h'=>u=.bool true∧Fr [] h0 h'):=by
  have lx:hload hh c 0 12=some s.cells:=by rw[o.ld];rfl
  rcases k with⟨k1,rfl,rfl⟩|⟨rfl,rfl,rfl⟩
  ·have q:aP (.sb .eql) [.str [],.str []]=some (.bool true):=rfl;simp(maxSteps:=1000000) (disch:=omega) only[evs,↓reduceIte,Nat.reduceEqDiff,Nat.reduceAdd,Nat.reduceMul,Nat.reduceLeDiff,Nat.reduceLT,Int.reduceNeg,DF,eff,Nat.reduceSub,fwrap_i64,lwX,g5,lx];refine OQ_does R ?_;rintro _ h2 ⟨rfl,F2⟩;simp(maxSteps:=1000000) (disch:=omega) only[evs,↓reduceIte,Nat.reduceEqDiff,Nat.reduceAdd,Nat.reduceMul,Nat.reduceLeDiff,Nat.reduceLT,Int.reduceNeg,DF,eff,Nat.reduceSub,fwrap_i64,g6,g7,k1,q];refine OQ_does (livesT_ok (Tb0.fr F2 (by simp))) ?_;rintro _ _ ⟨rfl,rfl⟩;simp(maxSteps:=1000000) (disch:=omega) only[evs,↓reduceIte,Nat.reduceEqDiff,Nat.reduceAdd,Nat.reduceMul,Nat.reduceLeDiff,Nat.reduceLT,Int.reduceNeg,DF,eff,Nat.reduceSub,fwrap_i64];exact F0.then F2
  ·have q:aP (.sb .eql) [.str a,.str a]=some (.bool true):=by rw[aP_sbe];simp
   simp(maxSteps:=1000000) (disch:=omega) only[evs,↓reduceIte,Nat.reduceEqDiff,Nat.reduceAdd,Nat.reduceMul,Nat.reduceLeDiff,Nat.reduceLT,Int.reduceNeg,DF,eff,Nat.reduceSub,fwrap_i64,lwX,g5,lx];refine OQ_does R ?_;rintro _ h2 ⟨rfl,F2⟩;simp(maxSteps:=1000000) (disch:=omega) only[evs,↓reduceIte,Nat.reduceEqDiff,Nat.reduceAdd,Nat.reduceMul,Nat.reduceLeDiff,Nat.reduceLT,Int.reduceNeg,DF,eff,Nat.reduceSub,fwrap_i64,g6,g7,q];refine OQ_does (livesT_ok (Tb0.fr F2 (by simp))) ?_;rintro _ _ ⟨rfl,rfl⟩;simp(maxSteps:=1000000) (disch:=omega) only[evs,↓reduceIte,Nat.reduceEqDiff,Nat.reduceAdd,Nat.reduceMul,Nat.reduceLeDiff,Nat.reduceLT,Int.reduceNeg,DF,eff,Nat.reduceSub,fwrap_i64];exact F0.then F2
end
set_option maxRecDepth 4000
/-- another number -/
def x1(t:Int):Int:=fwrap .i64 (BitVec.toNat (BitVec.ofInt IntKind.i64.bits t^^^BitVec.ofInt IntKind.i64.bits 1))
theorem aP_xor1(t:Int):aP (.ib .xor) [.int .i64 t,.int .i64 1]=some (.int .i64 (x1 t)):=by
  simp only[aP,kbeq_self,cond_true,ibin];rfl
theorem x1_ne{t:Int}(h:R64 t):x1 t≠t:=by
  intro e;have e1:(BitVec.ofInt 64 t^^^BitVec.ofInt 64 1).toNat%2=((BitVec.ofInt 64 t).toNat+1)%2:=by
    rw[BitVec.toNat_xor];have q:=Nat.testBit_xor (BitVec.ofInt 64 t).toNat (BitVec.ofInt 64 1).toNat 0;rw[show(BitVec.ofInt 64 1).toNat=1 from rfl]at q⊢;simp only[Nat.testBit_zero]at q;generalize(BitVec.ofInt 64 t).toNat=A at q⊢;generalize A^^^1=X at q⊢;rcases Nat.mod_two_eq_zero_or_one A with z|z<;>rcases Nat.mod_two_eq_zero_or_one X with y|y
    ·rw[z,y]at q;exact absurd q (by decide)
    ·omega
    ·omega
    ·rw[z,y]at q;exact absurd q (by decide)
  have e2:(BitVec.ofInt 64 t).toNat=(t%18446744073709551616).toNat:=by rw[BitVec.toNat_ofInt];rfl
  rw[e2]at e1;have lt:(BitVec.ofInt 64 t^^^BitVec.ofInt 64 1).toNat<18446744073709551616:=BitVec.isLt _;unfold x1 at e;have e3:IntKind.i64.bits=64:=rfl;rw[e3]at e;generalize(BitVec.ofInt 64 t^^^BitVec.ofInt 64 1).toNat=m at *;obtain⟨h1,h2⟩:=h;rw[fwrap_eq]at e;simp only[IntKind.wrap,IntKind.bits,IntKind.signed]at e;simp at e;omega
theorem u1_ne{t:Int}(h0:0≤t)(h1:t≤18446744073709551615):fwrap .u64 (t+1)≠t:=by
  rw[fwrap_eq];simp only[IntKind.wrap,IntKind.bits,IntKind.signed];simp;omega
theorem rowD_self(z:CR):rowD z z=[]:=by simp[rowD,(sameB_eq z z).2 rfl]
theorem rowsD_self:∀l:List CR,rowsD l l=[]
  |[]=>rfl
  |x::l=>by simp[rowsD,rowD_self,rowsD_self l]
theorem rowsD_set:∀(l:List CR)(k:Nat)(x y:CR),l[k]? =some x→rowsD l (l.set k y)=rowD x y∧rowsD (l.set k y) l=rowD y x
  |[],_,_,_,h=>by simp at h
  |z::l,0,x,y,h=>by
    simp at h;subst h;simp only[List.set_cons_zero,rowsD,rowsD_self];constructor
    ·split
     ·rename_i q;exact q.symm
     ·rfl
    ·split
     ·rename_i q;exact q.symm
     ·rfl
  |z::l,k+1,x,y,h=>by
    have:=rowsD_set l k x y (by simpa using h);simpa[rowsD,rowD_self]using this
theorem diffD_self(C:CS):diffD C C=[]:=by simp[diffD,(SameB_eq C C).2 rfl]
theorem diffD_ne{a b:CS}(h:a≠b):diffD a b=if a.off≠b.off then wOff else if a.rows.length≠b.rows.length then wRows else if rowsD a.rows b.rows≠[]then rowsD a.rows b.rows else if a.pin≠b.pin then wPin else wHead:=by
  unfold diffD;rw[if_neg (fun q=>h ((SameB_eq a b).1 q))]
/-- both ways -/
def Both(a b:CS)(z:Str):Prop:=diffD a b=z∧diffD b a=z
theorem Both.self(C:CS):Both C C []:=⟨diffD_self C,diffD_self C⟩
theorem Both.off{C:CS}{o:Int}(h:o≠C.off):Both C {C with off:=o} wOff:=by
  have n1:C≠{C with off:=o}:=fun e=>h (congrArg CS.off e).symm;exact⟨by rw[diffD_ne n1,if_pos (fun e=>h e.symm)],by rw[diffD_ne n1.symm,if_pos h]⟩
theorem Both.rows{C:CS}{y:CR}:Both C {C with rows:=C.rows++[y]} wRows:=by
  have n1:C≠{C with rows:=C.rows++[y]}:=fun e=>by
    have:=congrArg (fun c=>c.rows.length) e;simp at this
  exact⟨by rw[diffD_ne n1];simp,by rw[diffD_ne n1.symm];simp⟩
theorem Both.set{C:CS}{k:Nat}{x y:CR}{z:Str}(e:C.rows[k]? =some x)(h1:rowD x y=z)(h2:rowD y x=z)(hz:z≠[]):Both C {C with rows:=C.rows.set k y} z:=by
  have n1:C≠{C with rows:=C.rows.set k y}:=fun q=>by
    have q':C.rows=C.rows.set k y:=congrArg CS.rows q;have:=(rowsD_set C.rows k x y e).1;rw[←q',rowsD_self,h1]at this;exact hz this.symm
  obtain⟨r1,r2⟩:=rowsD_set C.rows k x y e;exact⟨by rw[diffD_ne n1];simp[r1,h1,hz],by rw[diffD_ne n1.symm];simp[r2,h2,hz]⟩
theorem Both.pin{C:CS}:Both C {C with pin:= !C.pin} wPin:=by
  have n1:C≠{C with pin:= !C.pin}:=fun e=>by
    have:=congrArg CS.pin e;simp at this
  exact⟨by rw[diffD_ne n1];simp[rowsD_self],by rw[diffD_ne n1.symm];simp[rowsD_self]⟩
theorem Both.head{C:CS}{d:CR}(h:d≠C.hd):Both C {C with hd:=d} wHead:=by
  have n1:C≠{C with hd:=d}:=fun e=>h (congrArg CS.hd e).symm;exact⟨by rw[diffD_ne n1];simp[rowsD_self],by rw[diffD_ne n1.symm];simp[rowsD_self]⟩
/-- rows of which one is written to -/
theorem updO_flat{α:Type}{f:α→List V}{m:Nat}(hf:∀x,(f x).length=m){L:List α}{i j:Nat}{x x':α}{vs:List V}(e:L[i]? =some x)(h:j+vs.length≤m)(u:updO (f x) j vs=some (f x')):
    updO (L.flatMap f) (i*m+j) vs=some ((L.set i x').flatMap f):=by
  have hi:i<L.length:=(List.getElem?_eq_some_iff.1 e).1;have eL:L=L.take i++x::L.drop (i+1):=by rw[←drop_cons e,List.take_append_drop]
  have eS:L.set i x'=L.take i++x'::L.drop (i+1):=by rw[List.set_eq_take_append_cons_drop,if_pos hi]
  have lA:((L.take i).flatMap f).length=i*m:=by rw[flat_len hf,List.length_take,Nat.min_eq_left (by omega)]
  rw[updO_at _ _ _ (by rw[hf];exact h)]at u;have u':=Option.some.inj u;have eF:L.flatMap f=(L.take i).flatMap f++(f x++(L.drop (i+1)).flatMap f):=by
    conv=>lhs;rw[eL]
    rw[List.flatMap_append,List.flatMap_cons]
  rw[eS,List.flatMap_append,List.flatMap_cons,eF,updO_at _ _ _ (by simp[lA,hf];omega),←u'];congr 1;have lx:=hf x;rw[←lA,List.take_length_add_append,Nat.add_assoc,List.drop_length_add_append,List.take_append_of_le_length (by omega),List.drop_append_of_le_length (by omega)];simp[List.append_assoc]
set_option maxRecDepth 4000
/-- what is known of the drawn slice -/
structure Drw(B c:Nat)(h1 hh:Heap)(s:Sc):Prop where
  w1:WF h1
  w:WF hh
  Tb0:Tb hh
  hp:0<hh.next
  F:Fr [] h1 hh
  cn:h1.next≤c
  o:Own hh c s.cells
  G:Gs h1 B 9 s.vr (s.rows.flatMap Rw.cells)
  S:Stab (fun y=>B≤y∧y∉vb s.vr) h1 fun h=>(∀r∈s.rows,RwH h r)∧RwH h s.hd
  n6:s.rows.length≤6
  off:R64 s.off
  ok:∀r∈s.rows,rOK r
  k1:∀r∈s.rows,r.nd.k=1
  hok:s.pin=true→rOK s.hd
  hnz:s.pin=true→sameB s.hd.c zR.c=false
  hz:s.pin=false→s.hd.c=zR.c
  len:(sT s).length≤1000000
section
variable {B c k : Nat} {h1 hh : Heap} {env : T V} {s : Sc}
theorem Drw.sc(D:Drw B c h1 hh s){h':Heap}(f:Fr [] h1 h'):ScH h' s:=by
  have q:=D.S [] h' (by simp) f;exact⟨⟨(D.G.fr f).sl (flat_len Rw.len _) (by omega),q.1,by have:=D.n6;omega⟩,q.2⟩
theorem Drw.text(D:Drw B c h1 hh s):Does go 13 [.agg s.cells] hh fun u h'=>u=.tup [.str (sT s),.int .i64 0]∧Fr [] hh h':=by
  refine(sText_ok (m:=s.rows.length) (hb:=false) D.w D.Tb0 D.hp (D.sc D.F) D.off (Nat.le_refl _) (fun i r _ q=>D.ok r (List.mem_of_getElem? q)) (fun r q=>by simp at q) ?_ (fun q=>by cases q) (fun q _=>D.hok q) (by have:=D.len;omega)).mono ?_
  ·cases p:s.pin
   ·right;rw[D.hz p,sameB_eq]
   ·exact .inl rfl
  ·rintro u h' ⟨rfl,F⟩;exact⟨by rw[if_neg (by simp)],F⟩
theorem lwS_none{h0:Heap}(D:Drw B c h1 hh s)(F01:Fr [] h0 h1)(hk:k%4=0∨(k%4=1∧s.pin=false)∨(k%4=2∧s.rows=[])∨(k%4=3∧s.pin=false))(hk8:k<256)(g1:env.get 1=some (.int .u8 (k:Int)))(g5:env.get 5=some (.ptr c 0))(g6:env.get 6=some (.int .i64 0))(g7:env.get 7=some (.str (sT s))):
    W go lwS env hh (RetQ [.t 4] fun u h'=>u=.bool true∧Fr [] h0 h'):=by
  have l1:hload1 hh c 1=some s.vr:=D.o.ld1 1;have l2:hload1 hh c 2=some (.bool s.pin):=D.o.ld1 2;have sl:=(D.sc D.F).1.1.len;have r4:=rem_u8 k 4 4 rfl (by omega);rcases hk with q|⟨q,p⟩|⟨q,p⟩|⟨q,p⟩
  ·rw[q]at r4;simp(maxSteps:=1000000) (disch:=omega) only[evs,↓reduceIte,Nat.reduceEqDiff,Nat.reduceAdd,Nat.reduceMul,Nat.reduceLeDiff,Nat.reduceLT,Int.reduceNeg,DF,eff,Nat.reduceSub,fwrap_i64,lwS,g1,r4];exact lwX_ok D.w (F01.then D.F) D.Tb0 D.o D.text (by simp[T.get_set,g5]) (by simp[T.get_set,g6]) (by simp[T.get_set,g7]) (.inr ⟨rfl,rfl,rfl⟩)
  ·rw[q]at r4;rw[p]at l2;simp(maxSteps:=1000000) (disch:=omega) only[evs,↓reduceIte,Nat.reduceEqDiff,Nat.reduceAdd,Nat.reduceMul,Nat.reduceLeDiff,Nat.reduceLT,Int.reduceNeg,DF,eff,Nat.reduceSub,fwrap_i64,lwS,g1,g5,r4,l2];exact lwX_ok D.w (F01.then D.F) D.Tb0 D.o D.text (by simp[T.get_set,g5]) (by simp[T.get_set,g6]) (by simp[T.get_set,g7]) (.inr ⟨rfl,rfl,rfl⟩)
  ·rw[q]at r4;rw[p]at sl;simp(maxSteps:=1000000) (disch:=omega) only[evs,↓reduceIte,Nat.reduceEqDiff,Nat.reduceAdd,Nat.reduceMul,Nat.reduceLeDiff,Nat.reduceLT,Int.reduceNeg,DF,eff,Nat.reduceSub,fwrap_i64,lwS,g1,g5,r4,l1,sl,List.length_nil];exact lwX_ok D.w (F01.then D.F) D.Tb0 D.o D.text (by simp[T.get_set,g5]) (by simp[T.get_set,g6]) (by simp[T.get_set,g7]) (.inr ⟨rfl,rfl,rfl⟩)
  ·rw[q]at r4;rw[p]at l2;simp(maxSteps:=1000000) (disch:=omega) only[evs,↓reduceIte,Nat.reduceEqDiff,Nat.reduceAdd,Nat.reduceMul,Nat.reduceLeDiff,Nat.reduceLT,Int.reduceNeg,DF,eff,Nat.reduceSub,fwrap_i64,lwS,g1,g5,r4,l2];exact lwX_ok D.w (F01.then D.F) D.Tb0 D.o D.text (by simp[T.get_set,g5]) (by simp[T.get_set,g6]) (by simp[T.get_set,g7]) (.inr ⟨rfl,rfl,rfl⟩)
end
set_option maxRecDepth 4000
section
variable {B c k : Nat} {h1 hh : Heap} {env : T V} {s : Sc}
theorem lwS_pin{h0:Heap}(D:Drw B c h1 hh s)(F01:Fr [] h0 h1)(q:k%4=1)(p:s.pin=true)(hk8:k<256)(g1:env.get 1=some (.int .u8 (k:Int)))(g5:env.get 5=some (.ptr c 0))(g6:env.get 6=some (.int .i64 0))(g7:env.get 7=some (.str (sT s))):
    W go lwS env hh (RetQ [.t 4] fun u h'=>u=.bool true∧Fr [] h0 h'):=by
  have l2:hload1 hh c 2=some (.bool s.pin):=D.o.ld1 2;have r4:=rem_u8 k 4 4 rfl (by omega);rw[q]at r4;rw[p]at l2;simp(maxSteps:=1000000) (disch:=omega) only[evs,↓reduceIte,Nat.reduceEqDiff,Nat.reduceAdd,Nat.reduceMul,Nat.reduceLeDiff,Nat.reduceLT,Int.reduceNeg,DF,eff,Nat.reduceSub,fwrap_i64,lwS,g1,g5,r4,l2];refine store_step (c':=({s with pin:=false}:Sc).cells) D.w D.o rfl rfl rfl ?_;intro h3 o3 F3 n3;have F':Fr [] h1 h3:=D.F.trans F3 D.w1 (by simp) (fun x m=>.inr (by rw[List.mem_singleton.1 m];exact D.cn));have T3:Tb h3:=D.Tb0.fr F3 (by
    intro m;have e:=List.mem_singleton.1 m;have o:=Pl.own D.Tb0;rw[e]at o;have:=o.uniq D.o;exact absurd (congrArg List.length this) (by simp[Sc.cells,tab10]))
  have R:=sNone_ok (s:={s with pin:=false}) F3.wf (D.sc F') rfl (D.hnz p);simp(maxSteps:=1000000) (disch:=omega) only[evs,↓reduceIte,Nat.reduceEqDiff,Nat.reduceAdd,Nat.reduceMul,Nat.reduceLeDiff,Nat.reduceLT,Int.reduceNeg,DF,eff,Nat.reduceSub,fwrap_i64];exact lwX_ok (e:=1) (y:=sT s) F3.wf (F01.then F') T3 o3 R (by simp[T.get_set,g5]) (by simp[T.get_set]) (by simp[T.get_set,g7]) (.inl ⟨by decide,rfl,rfl⟩)
theorem lwS_head{h0:Heap}(D:Drw B c h1 hh s)(F01:Fr [] h0 h1)(q:k%4=3)(p:s.pin=true)(hk8:k<256)(g1:env.get 1=some (.int .u8 (k:Int)))(g5:env.get 5=some (.ptr c 0))(g6:env.get 6=some (.int .i64 0))(g7:env.get 7=some (.str (sT s))):
    W go lwS env hh (RetQ [.t 4] fun u h'=>u=.bool true∧Fr [] h0 h'):=by
  have l2:hload1 hh c 2=some (.bool s.pin):=D.o.ld1 2;have r4:=rem_u8 k 4 4 rfl (by omega);rw[q]at r4;rw[p]at l2;obtain⟨s',es⟩:∃s',s'=({s with hd:={s.hd with nd:=⟨0,[],[],[],[],.nils,.nils,.nil⟩}}:Sc):=⟨_,rfl⟩;simp(maxSteps:=1000000) (disch:=omega) only[evs,↓reduceIte,Nat.reduceEqDiff,Nat.reduceAdd,Nat.reduceMul,Nat.reduceLeDiff,Nat.reduceLT,Int.reduceNeg,DF,eff,Nat.reduceSub,fwrap_i64,lwS,g1,g5,r4,l2];refine store_step (c':=s'.cells) D.w D.o rfl rfl (by rw[es];rfl) ?_;intro h3 o3 F3 n3;have F':Fr [] h1 h3:=D.F.trans F3 D.w1 (by simp) (fun x m=>.inr (by rw[List.mem_singleton.1 m];exact D.cn));have T3:Tb h3:=D.Tb0.fr F3 (by
    intro m;have e:=List.mem_singleton.1 m;have o:=Pl.own D.Tb0;rw[e]at o;have:=o.uniq D.o;exact absurd (congrArg List.length this) (by simp[Sc.cells,tab10]))
  have A:=D.sc F';have A':ScH h3 s':=by rw[es];exact⟨A.1,⟨(by decide:0<256),⟨rfl,rfl⟩,(by decide:0≤4096),⟨rfl,rfl⟩,(by decide:0≤4096),trivial,trivial⟩⟩
  have np:=D.hp;have l3:(sT s').length≤(sT s).length+3:=by
    have e0:(⟨0,[],[],[],[],.nils,.nils,.nil⟩:Nd).ct.txt.length=3:=rfl;rw[es];simp only[sT,p,if_true,rLine,lineT,List.length_append,List.length_cons,List.length_nil,Rw.c,e0];omega
  have R:=sText_ok (s:=s') (m:=s.rows.length) (hb:=true) F3.wf T3 (by omega) A' (by rw[es];exact D.off) (by rw[es];exact Nat.le_refl _) (fun i r _ e=>D.ok r (List.mem_of_getElem? (by rw[es]at e;exact e))) (fun r e=>by rw[es]at e;simp at e) (.inl (by rw[es];exact p)) (fun _=>by rw[es];rfl) (fun _ e=>by cases e) (by have:=D.len;omega);rw[if_pos (.inr ⟨by rw[es];exact p,rfl⟩)]at R;simp(maxSteps:=1000000) (disch:=omega) only[evs,↓reduceIte,Nat.reduceEqDiff,Nat.reduceAdd,Nat.reduceMul,Nat.reduceLeDiff,Nat.reduceLT,Int.reduceNeg,DF,eff,Nat.reduceSub,fwrap_i64];exact lwX_ok (e:=14) (y:=sT s) F3.wf (F01.then F') T3 o3 R (by simp[T.get_set,g5]) (by simp[T.get_set]) (by simp[T.get_set,g7]) (.inl ⟨by decide,rfl,rfl⟩)
end
set_option maxRecDepth 4000
theorem flat_set{α β:Type}{f:α→List β}{L:List α}{i:Nat}{x x':α}(hx:L[i]? =some x)(e:f x'=f x):(L.set i x').flatMap f=L.flatMap f:=by
  have hi:i<L.length:=(List.getElem?_eq_some_iff.1 hx).1;have eL:L=L.take i++x::L.drop (i+1):=by rw[←drop_cons hx,List.take_append_drop]
  rw[List.set_eq_take_append_cons_drop,if_pos hi];conv=>rhs;rw[eL]
  simp only[List.flatMap_append,List.flatMap_cons,e]
section
variable {B c k : Nat} {h0 h1 hh : Heap} {env : T V} {s : Sc}
theorem lwS_row(D:Drw B c h1 hh s)(w0:WF h0)(F01:Fr [] h0 h1)(hB:h0.next≤B)(q:k%4=2)(hne:0<s.rows.length)(hk8:k<256)(g1:env.get 1=some (.int .u8 (k:Int)))(g5:env.get 5=some (.ptr c 0))(g6:env.get 6=some (.int .i64 0))(g7:env.get 7=some (.str (sT s))):
    W go lwS env hh (RetQ [.t 4] fun u h'=>u=.bool true∧Fr [] h0 h'):=by
  have l1:hload1 hh c 1=some s.vr:=D.o.ld1 1;have sl:=(D.sc D.F).1.1.len;have r4:=rem_u8 k 4 4 rfl (by omega);rw[q]at r4;have n6:=D.n6;have fl:=flat_len Rw.len s.rows;obtain⟨i,hi⟩:∃i,s.rows.length=i+1:=⟨s.rows.length-1,by omega⟩;obtain⟨y,x,em,yB,oy,hx,ix⟩:∃y x,s.vr=.sliceU y 0 s.rows.length 9∧B≤y∧Own h1 y (s.rows.flatMap Rw.cells)∧s.rows[i]? =some x∧aP (.ixs 9) [s.vr,.int .i64 (i:Int)]=some (.ptr y (i*9)):=by
    rcases D.G with⟨_,e⟩|⟨y,m,e,hl,_,hy,o⟩
    ·rw[e]at fl;simp at fl;omega
    ·have hm:m=s.rows.length:=by omega
     refine⟨y,s.rows[i],by rw[e,hm],hy,o,List.getElem?_eq_getElem (by omega),?_⟩;rw[e,aP_ixU _ _ _ _ _ _ _ (by omega) (by omega)];simp
  have oy2:=D.F.get oy;have yc:y≠c:=by have:=oy.lt D.w1;have:=D.cn;omega
  obtain⟨x',ex⟩:∃x',x'=({x with nd:={x.nd with k:=7}}:Rw):=⟨_,rfl⟩;obtain⟨s',es⟩:∃s',s'=({s with rows:=s.rows.set i x'}:Sc):=⟨_,rfl⟩;have uf:updO (s.rows.flatMap Rw.cells) (i*9+3) [.int .u8 7]=some ((s.rows.set i x').flatMap Rw.cells):=updO_flat (j:=3) Rw.len hx (by decide) (by rw[ex];rfl);simp(maxSteps:=1000000) (disch:=omega) only[evs,↓reduceIte,Nat.reduceEqDiff,Nat.reduceAdd,Nat.reduceMul,Nat.reduceLeDiff,Nat.reduceLT,Int.reduceNeg,DF,eff,Nat.reduceSub,fwrap_i64,lwS,g1,g5,r4,l1,sl,show(0:Int)<(s.rows.length:Int) by omega,show(s.rows.length:Int)-1=(i:Int) by omega,ix];refine store_step (c':=(s.rows.set i x').flatMap Rw.cells) D.w oy2 rfl rfl uf ?_;intro h3 o3 F3 n3;have F':Fr [y] h1 h3:=D.F.trans F3 D.w1 (by simp) (fun x m=>.inl m);have F03:Fr [] h0 h3:=F01.trans F' w0 (by simp) (fun z m=>.inr (by rw[List.mem_singleton.1 m];omega));have oc:=F3.own _ _ (by simp;exact fun e=>yc e.symm) D.o;have oc':Own h3 c s'.cells:=by rw[es];exact oc
  have T3:Tb h3:=D.Tb0.fr F3 (by
    intro m;have e:=List.mem_singleton.1 m;have o:=Pl.own D.Tb0;rw[e]at o;have:=congrArg List.length (o.uniq oy2);rw[fl]at this;simp[tab10]at this;omega)
  have A:=D.S [y] h3 (fun z m=>.inl fun p=>p.2 (by rw[List.mem_singleton.1 m,em];simp[vb])) F';have ax:=A.1 x (List.mem_of_getElem? hx);have lr:(s.rows.set i x').length=s.rows.length:=by simp
  have A':ScH h3 s':=by
    rw[es];refine⟨⟨?_,?_,by simp;omega⟩,A.2⟩
    ·show Sl h3 9 s.vr _ _;rw[em];refine⟨flat_len Rw.len _,by simp,rfl,_,o3,by rw[flat_len Rw.len];show 0+(s.rows.set i x').length*9≤(s.rows.set i x').length*9;omega,?_⟩;rw[List.drop_zero,List.take_of_length_le (by rw[flat_len Rw.len];exact Nat.le_refl _)]
    ·intro r m;rcases List.mem_or_eq_of_mem_set m with m|rfl
     ·exact A.1 r m
     ·rw[ex];exact⟨(by decide:7<256),ax.2⟩
  have np:=D.hp;have gi:s'.rows[i]? =some x':=by rw[es];simp[show i<s.rows.length by omega]
  have eS:sT s'=sT s:=by
    have e1:=D.k1 x (List.mem_of_getElem? hx);have e2:rLine rowT x'=rLine rowT x:=by
      rw[ex];simp[rLine,lineT,Rw.c,Nd.ct,CT.txt,e1]
    rw[es];simp only[sT];rw[flat_set hx e2]
  have R:=sText_ok (s:=s') (m:=i) (hb:=false) F3.wf T3 (by omega) A' (by rw[es];exact D.off) (by rw[es,lr];omega) (fun j r hj e=>D.ok r (by
      rw[es]at e;simp only[]at e;rw[List.getElem?_set_ne (by omega)]at e;exact List.mem_of_getElem? e)) (fun r e=>by
      rw[gi]at e;cases e;rw[ex];rfl) (by
      rw[es];cases p:s.pin
      ·right;show sameB s.hd.c zR.c=true;rw[D.hz p,sameB_eq]
      ·exact .inl rfl) (fun e=>by cases e) (fun p _=>by rw[es]at p⊢;exact D.hok p) (by rw[eS];have:=D.len;omega)
  rw[if_pos (.inl (by rw[es,lr];omega))]at R;simp(maxSteps:=1000000) (disch:=omega) only[evs,↓reduceIte,Nat.reduceEqDiff,Nat.reduceAdd,Nat.reduceMul,Nat.reduceLeDiff,Nat.reduceLT,Int.reduceNeg,DF,eff,Nat.reduceSub,fwrap_i64];exact lwX_ok (e:=14) (y:=sT s) F3.wf F03 T3 oc' R (by simp[T.get_set,g5]) (by simp[T.get_set]) (by simp[T.get_set,g7]) (.inl ⟨by decide,rfl,rfl⟩)
end
set_option maxRecDepth 4000
theorem Drw.fr{B c:Nat}{h1 hh h':Heap}{s:Sc}(D:Drw B c h1 hh s)(f:Fr [] hh h'):Drw B c h1 h' s:=
  ⟨D.w1,f.wf,D.Tb0.fr f (by simp),Nat.lt_of_lt_of_le D.hp f.next,D.F.then f,D.cn,f.get D.o,D.G,D.S,D.n6,D.off,D.ok,D.k1,D.hok,D.hnz,D.hz,D.len⟩
section
variable {B c k : Nat} {h1 hh : Heap} {env : T V} {s : Sc} {Q : Ex → T V → Heap → Prop}
theorem lwP_ok(D:Drw B c h1 hh s)(g1:env.get 1=some (.int .u8 (k:Int)))(g5:env.get 5=some (.ptr c 0))(g6:env.get 6=some (.int .i64 0))(g7:env.get 7=some (.str (offT s.off++s.rows.flatMap (rLine rowT))))
    (K:∀env' h',Drw B c h1 h' s→env'.get 1=some (.int .u8 (k:Int))→env'.get 5=some (.ptr c 0)→env'.get 6=some (.int .i64 0)→env'.get 7=some (.str (sT s))→W go lwS env' h' Q):W go lwP env hh Q:=by
  have l2:hload1 hh c 2=some (.bool s.pin):=D.o.ld1 2;by_cases p:s.pin=true
  ·rw[p]at l2;have H:=(D.sc D.F).2;obtain⟨wd,g,⟨KK,hk,hK⟩,ht,hs,lt⟩:=D.hok p;have t6:hload hh c 6 6=some s.hd.nd.cells:=by rw[D.o.ld];rfl
   simp(maxSteps:=1000000) (disch:=omega) only[evs,↓reduceIte,Nat.reduceEqDiff,Nat.reduceAdd,Nat.reduceMul,Nat.reduceLeDiff,Nat.reduceLT,Int.reduceNeg,DF,eff,Nat.reduceSub,fwrap_i64,lwP,g5,l2,t6];refine OQ_does (text_ok D.w D.Tb0 D.hp H wd g lt) ?_;rintro _ h2 ⟨rfl,F2⟩;have o2:=F2.get D.o;have t9:hload h2 c 3 9=some s.hd.cells:=by rw[o2.ld];rfl
   simp(maxSteps:=1000000) (disch:=omega) only[evs,↓reduceIte,Nat.reduceEqDiff,Nat.reduceAdd,Nat.reduceMul,Nat.reduceLeDiff,Nat.reduceLT,Int.reduceNeg,DF,eff,Nat.reduceSub,fwrap_i64,g5,g7,t9];refine OQ_does (line_ok (p:=headT) F2.wf hk hK ht hs (by decide) lt) ?_;rintro _ h3 ⟨rfl,F3⟩;have len:=D.len;simp only[sT,if_pos p,List.length_append]at len;have e:sT s=offT s.off++s.rows.flatMap (rLine rowT)++lineT headT s.hd.c s.hd.nd.ct.txt:=by simp only[sT,if_pos p];rfl
   simp(maxSteps:=1000000) (disch:=omega) only[evs,↓reduceIte,Nat.reduceEqDiff,Nat.reduceAdd,Nat.reduceMul,Nat.reduceLeDiff,Nat.reduceLT,Int.reduceNeg,DF,eff,Nat.reduceSub,fwrap_i64,g5,g7,t9,aP_sba (offT s.off++s.rows.flatMap (rLine rowT)) (lineT headT s.hd.c s.hd.nd.ct.txt) (by rw[List.length_append];simp only[rLine]at len;omega)];rw[←e];exact K _ _ (D.fr (F2.then F3)) (by simp[T.get_set,g1]) (by simp[T.get_set,g5]) (by simp[T.get_set,g6]) (by simp[T.get_set])
  ·have pf:s.pin=false:=by simpa using p
   rw[pf]at l2;simp(maxSteps:=1000000) (disch:=omega) only[evs,↓reduceIte,Nat.reduceEqDiff,Nat.reduceAdd,Nat.reduceMul,Nat.reduceLeDiff,Nat.reduceLT,Int.reduceNeg,DF,eff,Nat.reduceSub,fwrap_i64,lwP,g5,l2];refine K _ _ D (by simp[T.get_set,g1]) (by simp[T.get_set,g5]) (by simp[T.get_set,g6]) ?_;simp[T.get_set,g7,sT,pf]
end
set_option maxRecDepth 4000
theorem takeL_inv:∀(n:Nat)(l q:List V),takeL n l=some q→l.take n=q∧n≤l.length
  |0,l,q,h=>by rw[takeL_zero]at h;cases h;exact⟨rfl,by omega⟩
  |n+1,[],q,h=>by cases h
  |n+1,v::l,q,h=>by
    rw[takeL_cons]at h;cases e:takeL n l with
    |none=>rw[e]at h;cases h
    |some q'=>
      rw[e]at h;cases h;obtain⟨h1,h2⟩:=takeL_inv n l q' e;exact⟨by simp[h1],by simp;omega⟩
theorem ld_tree{h:Heap}{y o:Nat}{x:Rw}(e:hload h y o 9=some x.cells):hload h y (o+3) 6=some x.nd.cells:=by
  unfold hload at e⊢;cases c:cellsAt h y with
  |none=>rw[c]at e;cases e
  |some l=>
    rw[c]at e;simp only[dropL_eq]at e⊢;obtain⟨e1,e2⟩:=takeL_inv _ _ _ e;simp only[List.length_drop]at e2;rw[takeL_at _ _ (by simp;omega),←List.drop_drop];congr 1;have:((l.drop o).take 9).drop 3=((l.drop o).drop 3).take 6:=by rw[List.drop_take]
    rw[←this,e1];rfl
section
variable {B c k : Nat} {h1 hh : Heap} {env : T V} {s : Sc} {Q : Ex → T V → Heap → Prop}
theorem lwL_ok(D:Drw B c h1 hh s)(g1:env.get 1=some (.int .u8 (k:Int)))(g5:env.get 5=some (.ptr c 0))(g6:env.get 6=some (.int .i64 0))(g7:env.get 7=some (.str (offT s.off)))
    (K:∀env' h',Drw B c h1 h' s→env'.get 1=some (.int .u8 (k:Int))→env'.get 5=some (.ptr c 0)→env'.get 6=some (.int .i64 0)→env'.get 7=some (.str (sT s))→W go lwS env' h' Q):W go lwL env hh Q:=by
  have n6:=D.n6;have len:=D.len;simp only[sT,List.length_append]at len;simp(maxSteps:=1000000) (disch:=omega) only[evs,↓reduceIte,Nat.reduceEqDiff,Nat.reduceAdd,Nat.reduceMul,Nat.reduceLeDiff,Nat.reduceLT,Int.reduceNeg,DF,eff,Nat.reduceSub,fwrap_i64,lwL];refine W_loop (fun n env h=>Drw B c h1 h s∧∃i:Nat,env.get 8=some (.int .i64 i)∧env.get 1=some (.int .u8 (k:Int))∧env.get 5=some (.ptr c 0)∧env.get 6=some (.int .i64 0)∧env.get 7=some (.str (offT s.off++(s.rows.take i).flatMap (rLine rowT)))∧i≤s.rows.length∧n=s.rows.length-i) s.rows.length (by omega) ?_ ?_
  ·exact⟨D,0,(by simp[T.get_set]),(by simp[T.get_set,g1]),(by simp[T.get_set,g5]),(by simp[T.get_set,g6]),by simp[T.get_set,g7],by omega,rfl⟩
  ·rintro n env h ⟨D,i,g8,g1,g5,g6,g7,hi,rfl⟩;have l1:hload1 h c 1=some s.vr:=D.o.ld1 1;have SC:=D.sc D.F;have sl:=SC.1.1.len;by_cases ci:i<s.rows.length
   ·obtain⟨b1,o1,x,p1,p2,p3,p4⟩:=SC.1.1.ix Rw.len .i64 (i:Int) (by omega) (by omega);rw[Int.toNat_natCast]at p4;have mx:=List.mem_of_getElem? p4;obtain⟨wd,g,⟨KK,hk,hK⟩,ht,hs,lt⟩:=D.ok x mx;have lt1:=ld_tree p3;have lt2:=take_le (rLine rowT) s.rows (i+1);rw[take_flat p4,List.length_append]at lt2;simp(maxSteps:=1000000) (disch:=omega) only[evs,↓reduceIte,Nat.reduceEqDiff,Nat.reduceAdd,Nat.reduceMul,Nat.reduceLeDiff,Nat.reduceLT,Int.reduceNeg,DF,eff,Nat.reduceSub,fwrap_i64,g8,g5,l1,sl,show(i:Int)<s.rows.length by omega,p1,lt1];refine OQ_does (text_ok D.w D.Tb0 D.hp (SC.1.2.1 x mx) wd g lt) ?_;rintro _ h2 ⟨rfl,F2⟩;have D2:=D.fr F2;have l12:hload1 h2 c 1=some s.vr:=D2.o.ld1 1;obtain⟨b2,o2,x2,r1,_,r3,r4⟩:=(D2.sc D2.F).1.1.ix Rw.len .i64 (i:Int) (by omega) (by omega);rw[Int.toNat_natCast,p4]at r4;obtain rfl:=Option.some.inj r4;simp(maxSteps:=1000000) (disch:=omega) only[evs,↓reduceIte,Nat.reduceEqDiff,Nat.reduceAdd,Nat.reduceMul,Nat.reduceLeDiff,Nat.reduceLT,Int.reduceNeg,DF,eff,Nat.reduceSub,fwrap_i64,g5,g7,g8,l12,r1,r3];refine OQ_does (line_ok (p:=rowT) F2.wf hk hK ht hs (by decide) lt) ?_;rintro _ h3 ⟨rfl,F3⟩;have e:offT s.off++(s.rows.take (i+1)).flatMap (rLine rowT)=offT s.off++(s.rows.take i).flatMap (rLine rowT)++lineT rowT x.c x.nd.ct.txt:=by
      rw[take_flat p4,←List.append_assoc];rfl
    simp(maxSteps:=1000000) (disch:=omega) only[evs,↓reduceIte,Nat.reduceEqDiff,Nat.reduceAdd,Nat.reduceMul,Nat.reduceLeDiff,Nat.reduceLT,Int.reduceNeg,DF,eff,Nat.reduceSub,fwrap_i64,g5,g7,g8,l12,r1,r3,l1,p1,p3,aP_sba (offT s.off++(s.rows.take i).flatMap (rLine rowT)) (lineT rowT x.c x.nd.ct.txt) (by rw[List.length_append];simp only[rLine]at lt2 len;omega)];refine(roundQ_norm _ _ _).2 ⟨s.rows.length-(i+1),by omega,D2.fr F3,i+1,(by simp[T.get_set]),(by simp[T.get_set,g1]),(by simp[T.get_set,g5]),(by simp[T.get_set,g6]),by simp only[T.get_set,↓reduceIte,Nat.reduceEqDiff];rw[e],by omega,rfl⟩
    done
   ·simp(maxSteps:=1000000) (disch:=omega) only[evs,↓reduceIte,Nat.reduceEqDiff,Nat.reduceAdd,Nat.reduceMul,Nat.reduceLeDiff,Nat.reduceLT,Int.reduceNeg,DF,eff,Nat.reduceSub,fwrap_i64,g8,g5,l1,sl,show¬(i:Int)<s.rows.length by omega];rw[List.take_of_length_le (by omega)]at g7;exact lwP_ok D (by simp[T.get_set,g1]) (by simp[T.get_set,g5]) (by simp[T.get_set,g6]) (by simp[T.get_set,g7]) K
end
set_option maxRecDepth 4000
theorem draw_sm(tag key:Nat)(code:List Nat):(drawC tag key code).sm:=
  ⟨by decide,attU_mem _ 3,attU_len _ 3,tagL_len _,(by split<;>decide),bld_sm _ _ _ _ _,trivial⟩
theorem flat_le{α β:Type}{f:α→List β}{m:Nat}:∀{L:List α},(∀x∈L,(f x).length≤m)→(L.flatMap f).length≤m*L.length
  |[],_=>by simp
  |x::L,h=>by
    have a:=h x (by simp);have b:=flat_le (L:=L) fun y q=>h y (by simp[q]);rw[List.flatMap_cons,List.length_append,List.length_cons,Nat.mul_add];omega
theorem drawn{h:Heap}{r:Rw}{d:Dw}(e:r.c=d.c)(a:DwH h d):rOK r∧r.nd.k=1∧∀p:Str,p.length≤8→(rLine p r).length≤17000:=by
  obtain⟨a1,⟨a2,a3⟩,a4,a5⟩:=a;have g:=(Dn.good a1).strip;have et:r.nd.ct=d.nd.c.strip:=congrArg CR.t e;have ek:r.key=d.key:=congrArg CR.key e;have ep:r.top=d.top:=congrArg CR.top e;have ez:r.sz=d.sz:=congrArg CR.sz e;have sm:r.nd.ct.sm:=by rw[et];exact CT.sm_strip (draw_sm _ _ _)
  have gd:Good r.nd.ct:=by rw[et];exact g
  have tl:r.nd.ct.txt.length≤16000:=by have:=CT.sm_len sm;have:=gd.2;omega
  have hK:∃K:Nat,r.key=(K:Int)∧K<18446744073709551616:=⟨r.key.toNat,by omega,by omega⟩;refine⟨⟨CT.sm_wds sm,gd,hK,by rw[ep];exact a4,by rw[ez];exact a5,by omega⟩,?_,fun p lp=>?_⟩
  ·have:r.nd.ct=.cons r.nd.k r.nd.tg r.nd.ky r.nd.at' r.nd.tx r.nd.sub.ct .nil:=rfl;rw[this]at et;exact(CT.cons.inj et).1
  ·have d0:=dec_len20 (n:=r.key.toNat) (by omega);have d1:=decI_len (v:=r.top) (by rw[ep];exact a4);have d2:=decI_len (v:=r.sz) (by rw[ez];exact a5);have d3:r.c.key=r.key:=rfl;have d4:r.c.top=r.top:=rfl;have d5:r.c.sz=r.sz:=rfl;simp only[rLine,lineT,List.length_append,List.length_cons,List.length_nil,d3,d4,d5];omega
theorem snapshotsText_ok{h:Heap}{x:Dt}{k:Nat}(w:WF h)(T0:Tb h)(hp:0<h.next)(dx:DtH h x)(ho:R64 x.off)(hk8:k<256):
    Does go 4 [.agg x.cells,.int .u8 (k:Int)] h fun u h'=>u=.bool true∧Fr [] h h':=by
  obtain⟨h1,e_h1⟩:∃h1,h1=halloc h x.cells:=⟨_,rfl⟩;have F_h1:Fr [] h h1:=e_h1▸Fr.halloc w _;have o_h1:Own h1 h.next x.cells:=e_h1▸Own.new w _;have lx:hload h1 h.next 0 3=some x.cells:=by rw[o_h1.ld];rfl
  refine does_fn g4x rfl ?_;simp(maxSteps:=1000000) (disch:=omega) only[evs,↓reduceIte,Nat.reduceEqDiff,Nat.reduceAdd,Nat.reduceMul,Nat.reduceLeDiff,Nat.reduceLT,Int.reduceNeg,DF,eff,Nat.reduceSub,fwrap_i64,fn4x,←e_h1,lx];refine OQ_does (tOf_ok F_h1.wf (dx.fr w F_h1)) ?_;rintro _ h2 ⟨s,rfl,ec,n6,G,S,F2⟩;have F02:=F_h1.then F2;have n1:=hnx e_h1;obtain⟨h3,e_h3⟩:∃h3,h3=halloc h2 z12:=⟨_,rfl⟩;have F_h3:Fr [] h2 h3:=e_h3▸Fr.halloc F2.wf _;have o_h3:Own h3 h2.next z12:=e_h3▸Own.new F2.wf _;have ones:onesB s.cells=true:=by
    have q:=S [] h2 (by simp) (Fr.refl F2.wf);exact ScH.one (h:=h2) ⟨⟨G.sl (flat_len Rw.len _) (by omega),q.1,by omega⟩,q.2⟩
  simp(maxSteps:=1000000) (disch:=omega) only[evs,↓reduceIte,Nat.reduceEqDiff,Nat.reduceAdd,Nat.reduceMul,Nat.reduceLeDiff,Nat.reduceLT,Int.reduceNeg,DF,eff,Nat.reduceSub,fwrap_i64,←e_h3];refine store_step (c':=s.cells) F_h3.wf o_h3 rfl ones rfl ?_;intro h4 o4 F4 n4;have F24:Fr [] h2 h4:=F_h3.fresh F4 F2.wf (Nat.le_refl _);have l0:hload1 h4 h2.next 0=some (.int .i64 s.off):=o4.ld1 0;have eo:s.off=x.off:=congrArg CS.off ec;have er:s.rows.map Rw.c=(x.rows.take 6).map Dw.c:=congrArg CS.rows ec;have ep:s.pin=decide (0<x.heads.length):=congrArg CS.pin ec;have eh:s.hd.c=hdC x.heads:=congrArg CS.hd ec;have dr:∀r∈s.rows,rOK r∧r.nd.k=1∧∀p:Str,p.length≤8→(rLine p r).length≤17000:=by
    intro r m;have:r.c∈(x.rows.take 6).map Dw.c:=by rw[←er];exact List.mem_map_of_mem m
    obtain⟨d,md,ed⟩:=List.mem_map.1 this;exact drawn ed.symm (dx.1.2.1 d (List.mem_of_mem_take md))
  have dh:s.pin=true→rOK s.hd∧s.hd.nd.k=1∧∀p:Str,p.length≤8→(rLine p s.hd).length≤17000:=by
    intro p;rw[ep]at p;cases e:x.heads with
    |nil=>rw[e]at p;simp at p
    |cons y l=>rw[e]at eh;exact drawn eh (dx.2.2.1 y (by rw[e];simp))
  have lo:=decI_len (v:=s.off) (by rw[eo];exact ho);have D:Drw h1.next h2.next h2 h4 s:=by
    refine⟨F2.wf,F24.wf,T0.fr (F02.then F24) (by simp),by have:=F02.next;have:=F24.next;omega,F24,Nat.le_refl _,o4,G,S,n6,by rw[eo];exact ho,fun r m=>(dr r m).1,fun r m=>(dr r m).2.1,fun p=>(dh p).1,fun p=>?_,fun p=>?_,?_⟩
    ·cases q:sameB s.hd.c zR.c
     ·rfl
     ·have e1:=(sameB_eq _ _).1 q;have e2:s.hd.nd.k=0:=(CT.cons.inj (show CT.cons s.hd.nd.k s.hd.nd.tg s.hd.nd.ky s.hd.nd.at' s.hd.nd.tx s.hd.nd.sub.ct .nil=CT.cons 0 [] [] [] [] .nil .nil from congrArg CR.t e1)).1;have:=(dh p).2.1;omega
    ·rw[eh];rw[ep]at p;cases e:x.heads with
     |nil=>rfl
     |cons y l=>rw[e]at p;simp at p
    ·have a:=flat_le (f:=rLine rowT) (m:=17000) (L:=s.rows) fun r m=>(dr r m).2.2 rowT (by decide);have b:(if s.pin=true then rLine headT s.hd else[]).length≤17000:=by
       split
       ·rename_i p;exact(dh p).2.2 headT (by decide)
       ·simp
     have c:(offT s.off).length=8+(decI s.off).length:=by simp[offT];omega
     simp only[sT,List.length_append];omega
  simp(maxSteps:=1000000) (disch:=omega) only[evs,↓reduceIte,Nat.reduceEqDiff,Nat.reduceAdd,Nat.reduceMul,Nat.reduceLeDiff,Nat.reduceLT,Int.reduceNeg,DF,eff,Nat.reduceSub,fwrap_i64,l0];refine OQ_does (decimal_ok (v:=s.off) (by rw[eo];exact ho)) ?_;rintro _ _ ⟨rfl,rfl⟩;simp(maxSteps:=1000000) (disch:=omega) only[evs,↓reduceIte,Nat.reduceEqDiff,Nat.reduceAdd,Nat.reduceMul,Nat.reduceLeDiff,Nat.reduceLT,Int.reduceNeg,DF,eff,Nat.reduceSub,fwrap_i64,aP_sba [111,102,102,115,101,116,32] (decI s.off) (by simp only[List.length_cons,List.length_nil];omega),aP_sba (111::102::102::115::101::116::32::decI s.off) [10] (by simp only[List.length_cons,List.length_nil];omega)];refine lwL_ok (k:=k) D (by simp[T.get_set]) (by simp[T.get_set]) (by simp[T.get_set]) (by simp[T.get_set,offT]) ?_;intro env' h' D' g1 g5 g6 g7;have pf:¬s.pin=true→s.pin=false:=fun p=>by simpa using p
  rcases(by omega:k%4=0∨k%4=1∨k%4=2∨k%4=3)with c4|c4|c4|c4
  ·exact lwS_none D' F02 (.inl c4) hk8 g1 g5 g6 g7
  ·by_cases p:s.pin=true
   ·exact lwS_pin D' F02 c4 p hk8 g1 g5 g6 g7
   ·exact lwS_none D' F02 (.inr (.inl ⟨c4,pf p⟩)) hk8 g1 g5 g6 g7
  ·by_cases p:0<s.rows.length
   ·exact lwS_row D' w F02 (by have:=F_h1.next;omega) c4 p hk8 g1 g5 g6 g7
   ·exact lwS_none D' F02 (.inr (.inr (.inl ⟨c4,List.eq_nil_of_length_eq_zero (by omega)⟩))) hk8 g1 g5 g6 g7
  ·by_cases p:s.pin=true
   ·exact lwS_head D' F02 c4 p hk8 g1 g5 g6 g7
   ·exact lwS_none D' F02 (.inr (.inr (.inr ⟨c4,pf p⟩))) hk8 g1 g5 g6 g7
end Go.Ev.Lay
open Go.RowKit
namespace Go.Ev
def Has(m:M)(p:Nat)(Ms:List (Option Loc)):Prop:=∀(i:Nat) loc,Ms[i]? =some (some loc)→m (p+i)=some loc
def HasR(h:Heap)(p:Nat)(Cs:List (List V)):Prop:=∀(i:Nat) c,Cs[i]? =some c→Rs h (p+i) c
theorem Has.left{m:M}{p:Nat}{A B:List (Option Loc)}(a:Has m p (A++B)):Has m p A:=fun i loc h=>a i loc (by rw[List.getElem?_append_left (List.getElem?_eq_some_iff.1 h).1];exact h)
theorem Has.right{m:M}{p:Nat}{A B:List (Option Loc)}(a:Has m p (A++B)):Has m (p+A.length) B:=fun i loc h=>by
  have:=a (A.length+i) loc (by rw[List.getElem?_append_right (by omega),show A.length+i-A.length=i by omega];exact h);rwa[←Nat.add_assoc]at this
theorem HasR.left{h:Heap}{p:Nat}{A B:List (List V)}(a:HasR h p (A++B)):HasR h p A:=fun i c e=>a i c (by rw[List.getElem?_append_left (List.getElem?_eq_some_iff.1 e).1];exact e)
theorem HasR.right{h:Heap}{p:Nat}{A B:List (List V)}(a:HasR h p (A++B)):HasR h (p+A.length) B:=fun i c e=>by
  have:=a (A.length+i) c (by rw[List.getElem?_append_right (by omega),show A.length+i-A.length=i by omega];exact e);rwa[←Nat.add_assoc]at this
theorem HasR.tail{h:Heap}{p:Nat}{c:List V}{B:List (List V)}(a:HasR h p (c::B)):HasR h (p+1) B:=HasR.right (A:=[c]) a
theorem Has.tail{m:M}{p:Nat}{l:Option Loc}{B:List (Option Loc)}(a:Has m p (l::B)):Has m (p+1) B:=Has.right (A:=[l]) a
/-- an array of the world that a block stands for -/
def ArrM(W:World)(m:M)(loc:Loc)(c:List V):Prop:=loc.lp=none∧c.length=loc.room∧∃C ty fz,W.heap[loc.block]? =some (.cells C ty fz)∧loc.base+loc.room≤C.size∧
  (∀(i:Nat) v,c[i]? =some v→∃x,C[loc.base+i]? =some x∧VRel m v x)∧∀i:Nat,i<loc.room→¬(fz.1≤loc.base+i∧loc.base+i<fz.2)
/-- it stands for one value alone -/
def VEx(v:V):Prop:=∀(m:M) x x',VRel m v x→VRel m v x'→x=x'
theorem VEx.int(k:IntKind)(n:Int):VEx (.int k n):=fun m x x' h h'=>by simp only[VRel]at h h';rw[h,h']
theorem VEx.str(s:List UInt8):VEx (.str s):=fun m x x' h h'=>by simp only[VRel]at h h';rw[h,h']
theorem VEx.nils:VEx .nils:=fun m x x' h h'=>by simp only[VRel]at h h';rw[h,h']
theorem VEx.sliceZ(a:Addr)(c:Nat):VEx (.sliceZ a c):=fun m x x' h h'=>by simp only[VRel]at h h';rw[h,h']
theorem VEx.slice(b o l c:Nat):VEx (.slice b o l c):=fun m x x' h h'=>by
  simp only[VRel]at h h';obtain⟨p,e,_,r⟩:=h;obtain⟨p',e',_,r'⟩:=h';rw[e]at e';cases e';rw[r,r']
theorem VsRel.app{m:M}:∀{a b:List V}{x y:List Value},VsRel m a x→VsRel m b y→VsRel m (a++b) (x++y)
  |[],_,x,_,h,g=>by have:x=[]:=h;subst this;exact g
  |v::vs,_,_,_,h,g=>by
    obtain⟨v',vs',rfl,h1,h2⟩:=h;exact⟨v',vs'++_,rfl,h1,h2.app g⟩
theorem VsRel.at{m:M}:∀{a:List V}{x:List Value},VsRel m a x→∀(i:Nat) v,a[i]? =some v→∃u,x[i]? =some u∧VRel m v u
  |[],_,_,i,v,e=>by simp at e
  |v::vs,_,h,i,u,e=>by
    obtain⟨v',vs',rfl,h1,h2⟩:=h;cases i with
    |zero=>simp at e;subst e;exact⟨v',rfl,h1⟩
    |succ i=>exact h2.at i u (by simpa using e)
/-- values of the world, told by evaluator values, and by blocks from p on -/
structure Tell(W:World)(p:Nat)(vs:List V)(xs:List Value)(Ms:List (Option Loc))(Cs:List (List V)):Prop where
  l:Ms.length=Cs.length
  v:∀m,Has m p Ms→VsRel m vs xs
  a:∀m,Has m p Ms→∀(i:Nat) loc c,Ms[i]? =some (some loc)→Cs[i]? =some c→ArrM W m loc c
  e:∀c∈Cs,∀u∈c,VEx u
  x:∀u∈vs,VEx u
section
variable {W : World} {p : Nat} {vs vs' : List V} {xs xs' : List Value} {Ms Ms' : List (Option Loc)} {Cs Cs' : List (List V)}
theorem Tell.app(s:Tell W p vs xs Ms Cs)(t:Tell W (p+Ms.length) vs' xs' Ms' Cs'):Tell W p (vs++vs') (xs++xs') (Ms++Ms') (Cs++Cs'):=by
  refine⟨by simp[s.l,t.l],fun m hm=>(s.v m hm.left).app (t.v m hm.right),fun m hm i loc c h1 h2=>?_,fun c hc=>?_,fun u hu=>?_⟩
  ·by_cases hi:i<Ms.length
   ·rw[List.getElem?_append_left hi]at h1;rw[List.getElem?_append_left (by rw[←s.l];exact hi)]at h2;exact s.a m hm.left i loc c h1 h2
   ·rw[List.getElem?_append_right (by omega)]at h1;rw[List.getElem?_append_right (by rw[←s.l];omega),←s.l]at h2;exact t.a m hm.right _ loc c h1 h2
  ·exact(List.mem_append.1 hc).elim (s.e c) (t.e c)
  ·exact(List.mem_append.1 hu).elim (s.x u) (t.x u)
theorem Tell.flat(h:∀m,VsRel m vs xs)(x:∀u∈vs,VEx u):Tell W p vs xs [] []:=⟨rfl,fun m _=>h m,fun m _ i loc c e=>by simp at e,by simp,x⟩
theorem Tell.arr{b off n k cap:Nat}{C:Array Value}{ty:TypeId}{fz:Nat×Nat}(hC:W.heap[b]? =some (.cells C ty fz))(hsz:off+n*k≤C.size)(hfz:∀i:Nat,i<n*k→¬(fz.1≤off+i∧off+i<fz.2))
    (hx:∀(i:Nat) x,xs[i]? =some x→C[off+i]? =some x) (lx:vs.length=n*k) (hcap:n≤cap) (t:Tell W (p+1) vs xs Ms Cs):
    Tell W p [.slice p 0 n cap] [.slice (some ⟨b,off,none⟩) n cap] (some ⟨b,off,n*k,none⟩::Ms) (vs::Cs):=by
  refine⟨by simp[t.l],fun m hm=>⟨_,[],rfl,⟨_,hm 0 _ rfl,hcap,by simp⟩,rfl⟩,fun m hm i loc c h1 h2=>?_,fun c hc=>?_,fun u hu=>?_⟩
  ·cases i with
   |zero=>
     simp at h1 h2;subst h1 h2;refine⟨rfl,lx,C,ty,fz,hC,hsz,fun i v hv=>?_,hfz⟩;obtain⟨u,e,r⟩:=(t.v m hm.tail).at i v hv;exact⟨u,hx i u e,r⟩
   |succ i=>exact t.a m hm.tail i loc c (by simpa using h1) (by simpa using h2)
  ·rcases List.mem_cons.1 hc with rfl|hc
   ·exact t.x
   ·exact t.e c hc
  ·have:u=_:=List.mem_singleton.1 hu;subst this;exact VEx.slice _ _ _ _
end
theorem tell_list{W:World}{α:Type}{f:α→List V}{Φ:Heap→α→Prop}{Q:α→Prop}:∀(ys:List (List Value))(p:Nat),(∀y∈ys,∀p,∃a Ms Cs,Tell W p (f a) y Ms Cs∧(∀h,HasR h p Cs→Φ h a)∧Q a)→
    ∃(L:List α)(Ms:List (Option Loc))(Cs:List (List V)),L.length=ys.length∧Tell W p (L.flatMap f) ys.flatten Ms Cs∧(∀h,HasR h p Cs→∀a∈L,Φ h a)∧∀a∈L,Q a
  |[],p,_=>⟨[],[],[],rfl,Tell.flat (fun _=>rfl) (by simp),by simp,by simp⟩
  |y::ys,p,hy=>by
    obtain⟨a,Ms,Cs,t,ph,q⟩:=hy y (by simp) p;obtain⟨L,Ms',Cs',ll,t',ph',q'⟩:=tell_list ys (p+Ms.length) fun y m=>hy y (by simp[m]);refine⟨a::L,Ms++Ms',Cs++Cs',by simp[ll],t.app t',fun h hr x hx=>?_,fun x hx=>?_⟩
    ·rcases List.mem_cons.1 hx with rfl|hx
     ·exact ph h hr.left
     ·exact ph' h (by rw[t.l];exact hr.right) x hx
    ·rcases List.mem_cons.1 hx with rfl|hx
     ·exact q
     ·exact q' x hx
theorem relM{W:World}{Ms:List (Option Loc)}{Cs:List (List V)}(hl:Ms.length=Cs.length)(he:∀(i:Nat) loc c,Ms[i]? =some (some loc)→Cs[i]? =some c→ArrM W (mS Ms) loc c):HRel (mS Ms) (hS Cs) W:=by
  have cget:∀(i:Nat) loc,Ms[i]? =some (some loc)→∃c,Cs[i]? =some c:=fun i loc h=>by
    have:=(List.getElem?_eq_some_iff.1 h).1;exact⟨_,List.getElem?_eq_getElem (by omega)⟩
  refine⟨⟨⟨?_,hS_wf⟩,?_,?_,?_⟩,fun p ty n hp=>by cases hp⟩
  ·intro p c f k hp;by_cases q2:2≤p∧p<2+Cs.length
   ·have hc:Cs[p-2]? =some (Cs[p-2]'(by omega)):=List.getElem?_eq_getElem (by omega);have:=hS_at hc;rw[show 2+(p-2)=p by omega,hp]at this;cases this;rw[hS_f1];exact Nat.le_refl _
   ·rw[hS_far (by omega)]at hp;cases hp
  ·intro p loc hp;obtain⟨i,rfl,h⟩:=mS_some hp;obtain⟨c,hc⟩:=cget i loc h;obtain⟨_,hcl,C,ty,fz,h1,h2,h3,h4⟩:=he i loc c h hc;exact⟨_,hS_at hc,fun _=>⟨C,ty,fz,h1,h2,by omega,h3,h4⟩⟩
  ·intro p loc hp;obtain⟨i,rfl,h⟩:=mS_some hp;obtain⟨c,hc⟩:=cget i loc h;obtain⟨_,_,C,ty,fz,h1,_⟩:=he i loc c h hc;exact(Array.getElem?_eq_some_iff.1 h1).1
  ·intro p q lp lq hp hq hbl hne;obtain⟨i,rfl,h⟩:=mS_some hp;obtain⟨j,rfl,h'⟩:=mS_some hq;obtain⟨c,hc⟩:=cget i lp h;obtain⟨c',hc'⟩:=cget j lq h';refine⟨c,c',1,0,0,hS_at hc,hS_at hc',fun e hf=>?_⟩;rw[hS_f1]at hf;simp only[Option.some.injEq,Prod.mk.injEq]at hf;omega
/-- nothing that was there has changed -/
theorem below_ex{m m':M}{h h':Heap}{w w':World}(H:HRel m h w)(H':HRel m' h' w')(E:Ext m h w m' h' w')
    (flat:∀p loc,m p=some loc→∃c,Rdb h p c∧Rdb h' p c∧c.length=loc.room∧∀v∈c,VEx v):Below w.heap.size w w':=by
  refine⟨E.os,E.tape,E.output,E.size,fun b hb=>?_⟩;by_cases cc:∃p loc,m p=some loc∧loc.block=b
  ·obtain⟨p,loc,hp,rfl⟩:=cc;obtain⟨cs,o,o',len,ints⟩:=flat p loc hp;obtain⟨C,el,fz,hC,hsz,hcell⟩:=H.cellsR hp o;obtain⟨x',hx',k⟩:=E.out loc.block hb _ hC;cases x' with
   |cells C' el' fz'=>
     obtain⟨rfl,kfz,ksz,kout⟩:=k;have hfz:fz'=fz:=by
       rcases kfz with q|⟨j,j1,j2,q,lq,hq,hbq,j3,j4⟩
       ·exact q
       ·exfalso;obtain⟨cq,oq,oq',lenq,_⟩:=flat q lq hq;obtain⟨f,k,e,r⟩:=oq'.rd;obtain⟨b,hb,rel⟩:=H'.blk q lq (E.le _ _ hq);rw[e]at hb;cases hb;obtain⟨C2,el2,fz2,hC2,_,_,_,a5⟩:=rel r;rw[hbq,hx']at hC2;cases hC2;exact a5 (j-lq.base) (by omega) ⟨by omega,by omega⟩
     subst hfz;rw[hx',hC];have:C'=C:=by
       apply Array.ext_getElem?;intro j;by_cases cv:Cov m loc.block j
       ·obtain⟨q,lq,hq,hbq,j1,j2⟩:=cv;obtain⟨cq,oq,oq',lenq,intq⟩:=flat q lq hq;obtain⟨C1,el1,fz1,hC1,_,hc1⟩:=H.cellsR hq oq;obtain⟨C2,el2,fz2,hC2,_,hc2⟩:=H'.cellsR (E.le _ _ hq) oq';rw[hbq]at hC1 hC2;rw[hC]at hC1;cases hC1;rw[hx']at hC2;cases hC2;have hlt:j-lq.base<cq.length:=by omega
        have ex:=intq cq[j-lq.base] (List.getElem_mem hlt);have ec:cq[j-lq.base]? =some cq[j-lq.base]:=List.getElem?_eq_getElem hlt;obtain⟨x1,e1,r1⟩:=hc1 (j-lq.base) _ ec;obtain⟨x2,e2,r2⟩:=hc2 (j-lq.base) _ ec;rw[show lq.base+(j-lq.base)=j by omega]at e1 e2;rw[e1,e2,ex m' x1 x2 (VRel.mono E.le _ _ r1) r2]
       ·exact kout j cv
     rw[this]
   |_=>simp at k
  ·exact E.keep b (fun p loc hp e=>cc ⟨p,loc,hp,e⟩) hb
end Go.Ev
