/- An evaluator of the program, and contracts over it: StT0 to SdE0. -/
import Derived.Test.YthhhghfnhbocnaaGreatDoorP07
set_option linter.unusedSimpArgs false
set_option linter.unusedVariables false
set_option linter.constructorNameAsVariable false
set_option linter.unnecessarySimpa false
namespace Go.Ev.Lay
def alC:IC:=(.seq (.seq (.ops [⟨none,.p .nilck [.v 0],none⟩,⟨none,.p (.faddr 5) [.l 0],none⟩,⟨none,.ld 1 false (.l 0),some 140⟩,⟨none,.p .lenS [.v 140],some 141⟩,⟨none,.p .mv [.c (.int .i64 0)],some 142⟩]) (.block 2 (.loop (.seq (.ops [⟨none,.p (.ib .lss) [.v 142,.v 141],some 143⟩]) (.seq (.cond (.v 143) (.skip) (.exit 2)) (.seq (.block 3 (.seq (.ops [⟨none,.p (.ixs 6) [.v 140,.v 142],none⟩,⟨none,.ld 6 true (.l 0),none⟩,⟨none,.al [(.int .u8 0),(.str []),(.str []),.nils,(.str []),.nils],some 6⟩,⟨none,.p .mv [.v 142],some 5⟩,⟨none,.st 6 (.v 6) (.l 0),none⟩]) (.seq (.ops [⟨none,.p (.faddr 2) [.v 6],none⟩,⟨none,.ld 1 false (.l 0),none⟩,⟨none,.p (.sb .neq) [.l 0,.c (.str [])],none⟩,⟨(some (.l 0,true)),.p .mv [.v 0],none⟩,⟨(some (.l 1,true)),.p .nilck [.l 0],none⟩,⟨(some (.l 2,true)),.p (.faddr 5) [.l 0],none⟩,⟨(some (.l 3,true)),.ld 1 false (.l 0),none⟩,⟨(some (.l 4,true)),.p .mv [.v 5],none⟩,⟨(some (.l 5,true)),.p (.sl none 6 false true false) [.l 1,.l 0],none⟩,⟨(some (.l 6,true)),.p (.mkf (.func 156) 0) [.v 6],none⟩,⟨(some (.l 7,true)),.cf 155 [.l 1,.l 0],none⟩,⟨none,.p .pick [.l 8,.l 0,.c (.bool false)],some 159⟩]) (.cond (.v 159) (.seq (.ops [⟨none,.p .mv [.c (.bool false)],some 2⟩]) (.ret)) (.skip))))) (.ops [⟨none,.p (.ib .add) [.v 142,.c (.int .i64 1)],none⟩,⟨none,.p .mv [.l 0],some 142⟩]))))))) (.seq (.ops [⟨none,.p .mv [.c (.bool true)],some 2⟩]) (.ret)))
def alA:IC:=(.seq (.seq (.ops [⟨none,.p .nilck [.v 0],none⟩,⟨none,.p (.faddr 3) [.l 0],none⟩,⟨none,.ld 1 false (.l 0),some 101⟩,⟨none,.p .lenS [.v 101],some 102⟩,⟨none,.p .mv [.c (.int .i64 0)],some 103⟩]) (.block 0 (.loop (.seq (.ops [⟨none,.p (.ib .lss) [.v 103,.v 102],some 104⟩]) (.seq (.cond (.v 104) (.skip) (.exit 0)) (.seq (.block 1 (.seq (.ops [⟨none,.p (.ixs 2) [.v 101,.v 103],none⟩,⟨none,.ld 2 true (.l 0),none⟩,⟨none,.al [(.str []),(.str [])],some 4⟩,⟨none,.p .mv [.v 103],some 3⟩,⟨none,.st 2 (.v 4) (.l 0),none⟩]) (.seq (.dops [⟨none,.p (.faddr 0) [.v 4],none⟩,⟨none,.ld 1 false (.l 0),none⟩,⟨none,.cf 154 [.l 0],none⟩,⟨none,.p .not [.l 0],none⟩,⟨none,.p .mv [.l 0],none⟩,⟨(some (.l 0,false)),.p (.faddr 1) [.v 4],none⟩,⟨(some (.l 1,false)),.ld 1 false (.l 0),none⟩,⟨(some (.l 2,false)),.cf 153 [.l 0],none⟩,⟨(some (.l 3,false)),.p .not [.l 0],none⟩,⟨none,.p .pick [.l 4,.c (.bool true),.l 0],none⟩,⟨none,.p .mv [.l 0],none⟩,⟨(some (.l 0,false)),.p .mv [.v 3],none⟩,⟨(some (.l 1,false)),.p (.ib .gtr) [.l 0,.c (.int .i64 0)],none⟩,⟨(some (.l 2,false)),.p .mv [.l 0],none⟩,⟨(some (.l 0,true)),.p (.faddr 0) [.v 4],none⟩,⟨(some (.l 1,true)),.ld 1 false (.l 0),none⟩,⟨(some (.l 2,true)),.p .mv [.v 0],none⟩,⟨(some (.l 3,true)),.p .nilck [.l 0],none⟩,⟨(some (.l 4,true)),.p (.faddr 3) [.l 0],none⟩,⟨(some (.l 5,true)),.ld 1 false (.l 0),none⟩,⟨(some (.l 6,true)),.p .mv [.v 3],none⟩,⟨(some (.l 7,true)),.p (.ib .sub) [.l 0,.c (.int .i64 1)],none⟩,⟨(some (.l 8,true)),.p (.ixs 2) [.l 2,.l 0],none⟩,⟨(some (.l 9,true)),.p (.faddr 0) [.l 0],none⟩,⟨(some (.l 10,true)),.ld 1 false (.l 0),none⟩,⟨(some (.l 11,true)),.p (.sb .leq) [.l 9,.l 0],none⟩,⟨(some (.l 15,false)),.p .pick [.l 12,.l 0,.c (.bool false)],none⟩,⟨none,.p .pick [.l 16,.c (.bool true),.l 0],none⟩] [] [0,1,3,7,15,31,63,127,255,511,1023,2047,4095,8191,16383,32767,16383,81919,212991,475135,16383,1064959,4145151,8339455,16728063,33554431,67108863,134217727] [0,1,2,3,4,5,6,7,8,9,10,11,12,13,14,15,16,17,18,19,20,21,22,23,24,25,26,27] [(1,0,0),(6,1,1),(15,2,2),(19,2,2),(24,2,2)] [(135,27)]) (.cond (.v 135) (.seq (.ops [⟨none,.p .mv [.c (.bool false)],some 2⟩]) (.ret)) (.skip))))) (.ops [⟨none,.p (.ib .add) [.v 103,.c (.int .i64 1)],none⟩,⟨none,.p .mv [.l 0],some 103⟩]))))))) alC)
def fn103x:IFn:=⟨1,.seq (.ops [⟨none,.p .mv [.c (.bool false)],some 2⟩]) (.seq (.seq (.ops [⟨none,.p .nilck [.v 0],none⟩,⟨none,.p (.faddr 0) [.l 0],none⟩,⟨none,.ld 1 false (.l 0),none⟩,⟨none,.p (.ib .eql) [.l 0,.c (.int .u8 2)],some 11⟩]) (.cond (.v 11) (.seq (.ops [⟨none,.p .nilck [.v 0],none⟩,⟨none,.p (.faddr 4) [.l 0],none⟩,⟨none,.ld 1 false (.l 0),none⟩,⟨none,.cf 153 [.l 0],none⟩,⟨(some (.l 0,true)),.p .mv [.v 0],none⟩,⟨(some (.l 1,true)),.p .nilck [.l 0],none⟩,⟨(some (.l 2,true)),.p (.faddr 1) [.l 0],none⟩,⟨(some (.l 3,true)),.ld 1 false (.l 0),none⟩,⟨(some (.l 4,true)),.p (.sb .eql) [.l 0,.c (.str [])],none⟩,⟨none,.p .pick [.l 5,.l 0,.c (.bool false)],none⟩,⟨(some (.l 0,true)),.p .mv [.v 0],none⟩,⟨(some (.l 1,true)),.p .nilck [.l 0],none⟩,⟨(some (.l 2,true)),.p (.faddr 2) [.l 0],none⟩,⟨(some (.l 3,true)),.ld 1 false (.l 0),none⟩,⟨(some (.l 4,true)),.p (.sb .eql) [.l 0,.c (.str [])],none⟩,⟨none,.p .pick [.l 5,.l 0,.c (.bool false)],none⟩,⟨(some (.l 0,true)),.p .mv [.v 0],none⟩,⟨(some (.l 1,true)),.p .nilck [.l 0],none⟩,⟨(some (.l 2,true)),.p (.faddr 3) [.l 0],none⟩,⟨(some (.l 3,true)),.ld 1 false (.l 0),none⟩,⟨(some (.l 4,true)),.p .lenS [.l 0],none⟩,⟨(some (.l 5,true)),.p (.ib .eql) [.l 0,.c (.int .i64 0)],none⟩,⟨none,.p .pick [.l 6,.l 0,.c (.bool false)],none⟩,⟨(some (.l 0,true)),.p .mv [.v 0],none⟩,⟨(some (.l 1,true)),.p .nilck [.l 0],none⟩,⟨(some (.l 2,true)),.p (.faddr 5) [.l 0],none⟩,⟨(some (.l 3,true)),.ld 1 false (.l 0),none⟩,⟨(some (.l 4,true)),.p .lenS [.l 0],none⟩,⟨(some (.l 5,true)),.p (.ib .eql) [.l 0,.c (.int .i64 0)],none⟩,⟨none,.p .pick [.l 6,.l 0,.c (.bool false)],none⟩,⟨none,.p .mv [.l 0],some 2⟩]) (.ret)) (.skip))) (.seq (.seq (.ops [⟨none,.p .nilck [.v 0],none⟩,⟨none,.p (.faddr 0) [.l 0],none⟩,⟨none,.ld 1 false (.l 0),none⟩,⟨none,.p (.ib .neq) [.l 0,.c (.int .u8 1)],none⟩,⟨(some (.l 0,false)),.p .mv [.v 0],none⟩,⟨(some (.l 1,false)),.p .nilck [.l 0],none⟩,⟨(some (.l 2,false)),.p (.faddr 1) [.l 0],none⟩,⟨(some (.l 3,false)),.ld 1 false (.l 0),none⟩,⟨(some (.l 4,false)),.cf 154 [.l 0],none⟩,⟨(some (.l 5,false)),.p .not [.l 0],none⟩,⟨none,.p .pick [.l 6,.c (.bool true),.l 0],none⟩,⟨(some (.l 0,false)),.p .mv [.v 0],none⟩,⟨(some (.l 1,false)),.p .nilck [.l 0],none⟩,⟨(some (.l 2,false)),.p (.faddr 2) [.l 0],none⟩,⟨(some (.l 3,false)),.ld 1 false (.l 0),none⟩,⟨(some (.l 4,false)),.p (.sb .neq) [.l 0,.c (.str [])],none⟩,⟨(some (.l 5,false)),.p .mv [.l 0],none⟩,⟨(some (.l 0,true)),.p .mv [.v 0],none⟩,⟨(some (.l 1,true)),.p .nilck [.l 0],none⟩,⟨(some (.l 2,true)),.p (.faddr 2) [.l 0],none⟩,⟨(some (.l 3,true)),.ld 1 false (.l 0),none⟩,⟨(some (.l 4,true)),.cf 154 [.l 0],none⟩,⟨(some (.l 5,true)),.p .not [.l 0],none⟩,⟨(some (.l 12,false)),.p .pick [.l 6,.l 0,.c (.bool false)],none⟩,⟨none,.p .pick [.l 13,.c (.bool true),.l 0],none⟩,⟨(some (.l 0,false)),.p .mv [.v 0],none⟩,⟨(some (.l 1,false)),.p .nilck [.l 0],none⟩,⟨(some (.l 2,false)),.p (.faddr 4) [.l 0],none⟩,⟨(some (.l 3,false)),.ld 1 false (.l 0),none⟩,⟨(some (.l 4,false)),.p (.sb .neq) [.l 0,.c (.str [])],none⟩,⟨none,.p .pick [.l 5,.c (.bool true),.l 0],none⟩,⟨(some (.l 0,false)),.p .mv [.v 0],none⟩,⟨(some (.l 1,false)),.p .nilck [.l 0],none⟩,⟨(some (.l 2,false)),.p (.faddr 3) [.l 0],none⟩,⟨(some (.l 3,false)),.ld 1 false (.l 0),none⟩,⟨(some (.l 4,false)),.p .lenS [.l 0],none⟩,⟨(some (.l 5,false)),.p (.ib .gtr) [.l 0,.c (.int .i64 8)],none⟩,⟨none,.p .pick [.l 6,.c (.bool true),.l 0],none⟩,⟨(some (.l 0,false)),.p .mv [.v 0],none⟩,⟨(some (.l 1,false)),.p .nilck [.l 0],none⟩,⟨(some (.l 2,false)),.p (.faddr 5) [.l 0],none⟩,⟨(some (.l 3,false)),.ld 1 false (.l 0),none⟩,⟨(some (.l 4,false)),.p .lenS [.l 0],none⟩,⟨(some (.l 5,false)),.p (.ib .gtr) [.l 0,.c (.int .i64 16)],none⟩,⟨none,.p .pick [.l 6,.c (.bool true),.l 0],some 97⟩]) (.cond (.v 97) (.seq (.ops [⟨none,.p .mv [.c (.bool false)],some 2⟩]) (.ret)) (.skip))) alA)),[.t 2],[0,2,3,4,5,6,11,97,101,102,103,104,135,140,141,142,143,159]⟩
/-- (*sync.Once).Do -/
theorem g103x:F.get 103=some fn103x:=rfl
set_option maxRecDepth 4000
def leS(a b:Str):Bool:=Op.bytesLess a b||a==b
theorem aP_sble(a b:Str):aP (.sb .leq) [.str a,.str b]=some (.bool (leS a b)):=rfl
def prevOK(p:Option Str)(n:Str):Bool:=match p with
  |none=>true
  |some q=> !leS n q
def attrsOK:Option Str→List (Str×Str)→Bool
  |_,[]=>true
  |p,(n,v)::r=>(okN n&&(okT v&&prevOK p n))&&attrsOK (some n) r
def keysOK:List Str→List Str→Bool
  |_,[]=>true
  |pr,k::r=>(k==[]|| !(pr.any (· ==k)))&&keysOK (pr++[k]) r
theorem keysOK_cons(pr:List Str)(k:Str)(r:List Str):keysOK pr (k::r)=((k==[]|| !(pr.any (· ==k)))&&keysOK (pr++[k]) r):=rfl
theorem attrsOK_cons(p:Option Str)(a:Str×Str)(r:List (Str×Str)):attrsOK p (a::r)=((okN a.1&&(okT a.2&&prevOK p a.1))&&attrsOK (some a.1) r):=rfl
def aloneB(k:Nat)(tg ky:Str)(at':List (Str×Str))(tx:Str)(sub:NT):Bool:=
  if k=2 then okT tx&&(tg==[]&&(ky==[]&&(decide (at'.length=0)&&decide (sub.len=0))))
  else decide (k=1)&&(okN tg&&((ky==[]||okN ky)&&(tx==[]&&(decide (at'.length≤8)&&(decide (sub.len≤16)&&(attrsOK none at'&&keysOK [] sub.keys))))))
def prevN(at':List (Str×Str))(i:Nat):Option Str:=if i=0 then none else(at'[i-1]?).map (·.1)
theorem prevN_succ{at':List (Str×Str)}{i:Nat}{a:Str×Str}(h:at'[i]? =some a):prevN at' (i+1)=some a.1:=by simp[prevN,h]
theorem alC_ok{h:Heap}{b o:Nat}{x0 x1 x2 x3 x4 vc:V}{sub:NT}{env:T V}{R:V→Heap→Prop}(w:WF h)(hA:∀h',Fr [] h h'→At6 h' b o x0 x1 x2 x3 x4 vc)
    (rc:Sl h 6 vc sub.len sub.cells) (nc:sub.len≤4096) (ones:onesB sub.cells=true) (g0:env.get 0=some (.ptr b o))
    (k:∀h',Fr [] h h'→R (.bool (keysOK [] sub.keys)) h'):W go alC env h (RetQ [.t 2] R):=by
  have q5:=(hA h (Fr.refl w)).2.2.2.2.2.1;simp(maxSteps:=1000000) (disch:=omega) only[evs,↓reduceIte,Nat.reduceEqDiff,Nat.reduceAdd,Nat.reduceMul,Nat.reduceLeDiff,Nat.reduceLT,Int.reduceNeg,DF,eff,Nat.reduceSub,fwrap_i64,alC,g0,q5,rc.len];refine W_loop (fun n env hh=>Fr [] h hh∧∃(i:Nat),env.get 142=some (.int .i64 i)∧env.get 141=some (.int .i64 sub.len)∧env.get 140=some vc∧env.get 0=some (.ptr b o)∧
      i≤sub.len∧keysOK (sub.keys.take i) (sub.keys.drop i)=keysOK [] sub.keys∧n=sub.len-i) sub.len (by omega) ?_ ?_
  ·exact⟨Fr.refl w,0,(by simp[T.get_set]),(by simp[T.get_set]),(by simp[T.get_set]),(by simp[T.get_set,g0]),by omega,rfl,rfl⟩
  ·rintro n env hh ⟨F,i,g142,g141,g140,g0,hi,e,rfl⟩;by_cases hlt:i<sub.len
   ·obtain⟨kd,tg,ky,at',tx,va,vc',sb,nx,e1,e2,e3,e4,e5,_⟩:=sub.split i hlt;obtain⟨b',o',p1,p2⟩:=(rc.fr F).ix6 hlt e2;have on:onesB [.int .u8 (kd:Int),.str tg,.str ky,va,.str tx,vc']=true:=by
      have:=onesB_drop (i*6) ones;rw[e2,onesB_append]at this;exact(Bool.and_eq_true _ _▸this).1
    have hlt':(i:Int)<sub.len:=by omega
    rw[e4]at e;rw[keysOK_cons]at e;have ek:(sub.keys.take i)++[ky]=sub.keys.take (i+1):=by
      rw[List.take_add_one,e5];rfl
    have ed:nx.keys=sub.keys.drop (i+1):=by
      rw[←List.drop_drop (i:=1),e4];rfl
    rw[ek,ed]at e;obtain⟨h1,e_h1⟩:∃h1,h1=halloc hh [.int .u8 0,.str [],.str [],.nils,.str [],.nils]:=⟨_,rfl⟩;have F_h1:Fr [] hh h1:=e_h1▸Fr.halloc F.wf _;have o_h1:Own h1 hh.next [.int .u8 0,.str [],.str [],.nils,.str [],.nils]:=e_h1▸Own.new F.wf _;simp(maxSteps:=1000000) (disch:=omega) only[evs,↓reduceIte,Nat.reduceEqDiff,Nat.reduceAdd,Nat.reduceMul,Nat.reduceLeDiff,Nat.reduceLT,Int.reduceNeg,DF,eff,Nat.reduceSub,fwrap_i64,g142,g141,g140,g0,hlt',p1,p2.2.2.2.2.2.2,←e_h1];refine store_step (c':=[.int .u8 (kd:Int),.str tg,.str ky,va,.str tx,vc']) F_h1.wf o_h1 rfl on rfl ?_;rintro h2 o2 F2 n2;have F02:Fr [] hh h2:=F_h1.fresh F2 F.wf (Nat.le_refl _);have q2:hload1 h2 hh.next 2=some (.str ky):=o2.ld1 2;have q5:=(hA h2 (F.then F02)).2.2.2.2.2.1;cases c:ky==[]
    ·obtain⟨u,s1,s2⟩:=(rc.fr (F.then F02)).upto (by omega) (Sl.ne (rc.fr (F.then F02)) (by omega)) .i64 (i:Int) (by omega) (by omega);rw[Int.toNat_natCast]at s2;simp(maxSteps:=1000000) (disch:=omega) only[evs,↓reduceIte,Nat.reduceEqDiff,Nat.reduceAdd,Nat.reduceMul,Nat.reduceLeDiff,Nat.reduceLT,Int.reduceNeg,DF,eff,Nat.reduceSub,fwrap_i64,g142,g141,g140,g0,q2,aP_sbn,c,q5,s1];refine OQ_does (indexK_ok F02.wf s2 (by omega) (by omega) ones (fun h' f=>(f.get o2).ld1 2)) ?_;rintro _ h3 ⟨rfl,F3⟩;cases c2:(sub.keys.take i).any (· ==ky)
     ·simp(maxSteps:=1000000) (disch:=omega) only[evs,↓reduceIte,Nat.reduceEqDiff,Nat.reduceAdd,Nat.reduceMul,Nat.reduceLeDiff,Nat.reduceLT,Int.reduceNeg,DF,eff,Nat.reduceSub,fwrap_i64,g142,g141,g140,g0];rw[c,c2]at e;refine(roundQ_norm _ _ _).2 ⟨sub.len-(i+1),by omega,(F.then F02).then F3,i+1,(by simp[T.get_set]),(by simp[T.get_set,g141]),(by simp[T.get_set,g140]),(by simp[T.get_set,g0]),by omega,by simpa using e,rfl⟩
      done
     ·simp(maxSteps:=1000000) (disch:=omega) only[evs,↓reduceIte,Nat.reduceEqDiff,Nat.reduceAdd,Nat.reduceMul,Nat.reduceLeDiff,Nat.reduceLT,Int.reduceNeg,DF,eff,Nat.reduceSub,fwrap_i64,g142,g141,g140,g0];have:=k _ ((F.then F02).then F3);rw[←e,c,c2]at this;simpa using this
    ·simp(maxSteps:=1000000) (disch:=omega) only[evs,↓reduceIte,Nat.reduceEqDiff,Nat.reduceAdd,Nat.reduceMul,Nat.reduceLeDiff,Nat.reduceLT,Int.reduceNeg,DF,eff,Nat.reduceSub,fwrap_i64,g142,g141,g140,g0,q2,aP_sbn,c];rw[c]at e;refine(roundQ_norm _ _ _).2 ⟨sub.len-(i+1),by omega,F.then F02,i+1,(by simp[T.get_set]),(by simp[T.get_set,g141]),(by simp[T.get_set,g140]),(by simp[T.get_set,g0]),by omega,by simpa using e,rfl⟩
     done
   ·simp(maxSteps:=1000000) (disch:=omega) only[evs,↓reduceIte,Nat.reduceEqDiff,Nat.reduceAdd,Nat.reduceMul,Nat.reduceLeDiff,Nat.reduceLT,Int.reduceNeg,DF,eff,Nat.reduceSub,fwrap_i64,g142,g141,g140,g0,show¬(i:Int)<sub.len by omega];rw[List.drop_of_length_le (by rw[NT.keys_len];omega)]at e;have:=k _ F;rw[←e]at this;exact this
theorem alA_ok{h:Heap}{b o:Nat}{x0 x1 x2 va x4 vc:V}{at':List (Str×Str)}{sub:NT}{env:T V}{R:V→Heap→Prop}(w:WF h)(hA:∀h',Fr [] h h'→At6 h' b o x0 x1 x2 va x4 vc)
    (ra:Recs attC 2 h va at') (na:at'.length≤4096) (rc:Sl h 6 vc sub.len sub.cells) (nc:sub.len≤4096) (ones:onesB sub.cells=true) (g0:env.get 0=some (.ptr b o))
    (k:∀h',Fr [] h h'→R (.bool (attrsOK none at'&&keysOK [] sub.keys)) h'):W go alA env h (RetQ [.t 2] R):=by
  have q3:=(hA h (Fr.refl w)).2.2.2.1;simp(maxSteps:=1000000) (disch:=omega) only[evs,↓reduceIte,Nat.reduceEqDiff,Nat.reduceAdd,Nat.reduceMul,Nat.reduceLeDiff,Nat.reduceLT,Int.reduceNeg,DF,eff,Nat.reduceSub,fwrap_i64,alA,g0,q3,ra.len];refine W_loop (fun n env hh=>Fr [] h hh∧∃(i:Nat),env.get 103=some (.int .i64 i)∧env.get 102=some (.int .i64 at'.length)∧env.get 101=some va∧env.get 0=some (.ptr b o)∧
      i≤at'.length∧attrsOK (prevN at' i) (at'.drop i)=attrsOK none at'∧n=at'.length-i) at'.length (by omega) ?_ ?_
  ·exact⟨Fr.refl w,0,(by simp[T.get_set]),(by simp[T.get_set]),(by simp[T.get_set]),(by simp[T.get_set,g0]),by omega,rfl,rfl⟩
  ·rintro n env hh ⟨F,i,g103,g102,g101,g0,hi,e,rfl⟩;by_cases hlt:i<at'.length
   ·have hlt':(i:Int)<at'.length:=by omega
    obtain⟨b',o',a,p1,p2,p3,p4⟩:=(ra.fr F).ix attC_len .i64 (i:Int) (by omega) hlt';rw[Int.toNat_natCast]at p4;rw[drop_cons p4,attrsOK_cons]at e;have en:=prevN_succ p4;obtain⟨h1,e_h1⟩:∃h1,h1=halloc hh [.str [],.str []]:=⟨_,rfl⟩;have F_h1:Fr [] hh h1:=e_h1▸Fr.halloc F.wf _;have o_h1:Own h1 hh.next [.str [],.str []]:=e_h1▸Own.new F.wf _;simp(maxSteps:=1000000) (disch:=omega) only[evs,↓reduceIte,Nat.reduceEqDiff,Nat.reduceAdd,Nat.reduceMul,Nat.reduceLeDiff,Nat.reduceLT,Int.reduceNeg,DF,eff,Nat.reduceSub,fwrap_i64,g103,g102,g101,g0,hlt',p1,p3,←e_h1];refine store_step (c':=[.str a.1,.str a.2]) F_h1.wf o_h1 rfl rfl rfl ?_;rintro h2 o2 F2 n2;have F02:Fr [] hh h2:=F_h1.fresh F2 F.wf (Nat.le_refl _);have q0:hload1 h2 hh.next 0=some (.str a.1):=o2.ld1 0;have q1:hload1 h2 hh.next 1=some (.str a.2):=o2.ld1 1;simp(maxSteps:=1000000) (disch:=omega) only[evs,↓reduceIte,Nat.reduceEqDiff,Nat.reduceAdd,Nat.reduceMul,Nat.reduceLeDiff,Nat.reduceLT,Int.reduceNeg,DF,eff,Nat.reduceSub,fwrap_i64,g103,g102,g101,g0,q0];refine OQ_does named_ok ?_;rintro _ _ ⟨rfl,rfl⟩;cases c1:okN a.1
    ·simp(maxSteps:=1000000) (disch:=omega) only[evs,↓reduceIte,Nat.reduceEqDiff,Nat.reduceAdd,Nat.reduceMul,Nat.reduceLeDiff,Nat.reduceLT,Int.reduceNeg,DF,eff,Nat.reduceSub,fwrap_i64,c1,g103,g102,g101,g0,q0];have:=k _ (F.then F02);rw[←e,c1]at this;simpa using this
    simp(maxSteps:=1000000) (disch:=omega) only[evs,↓reduceIte,Nat.reduceEqDiff,Nat.reduceAdd,Nat.reduceMul,Nat.reduceLeDiff,Nat.reduceLT,Int.reduceNeg,DF,eff,Nat.reduceSub,fwrap_i64,c1,g103,g102,g101,g0,q1];refine OQ_does (ntext_ok F02.wf) ?_;rintro _ h3 ⟨rfl,F3⟩;have F03:=(F.then F02).then F3;have q0':hload1 h3 hh.next 0=some (.str a.1):=(F3.get o2).ld1 0;cases c2:okT a.2
    ·simp(maxSteps:=1000000) (disch:=omega) only[evs,↓reduceIte,Nat.reduceEqDiff,Nat.reduceAdd,Nat.reduceMul,Nat.reduceLeDiff,Nat.reduceLT,Int.reduceNeg,DF,eff,Nat.reduceSub,fwrap_i64,c2,g103,g102,g101,g0,q0,q1];have:=k _ F03;rw[←e,c1,c2]at this;simpa using this
    have fin:prevOK (prevN at' i) a.1=true→attrsOK (prevN at' (i+1)) (at'.drop (i+1))=attrsOK none at':=fun c=>by
      rw[←e,c1,c2,c,en];rfl
    by_cases c3:i=0
    ·simp(maxSteps:=1000000) (disch:=omega) only[evs,↓reduceIte,Nat.reduceEqDiff,Nat.reduceAdd,Nat.reduceMul,Nat.reduceLeDiff,Nat.reduceLT,Int.reduceNeg,DF,eff,Nat.reduceSub,fwrap_i64,c2,g103,g102,g101,g0,q0,q1,show¬(0:Int)<(i:Int) by omega];refine(roundQ_norm _ _ _).2 ⟨at'.length-(i+1),by omega,F03,i+1,(by simp[T.get_set]),(by simp[T.get_set,g102]),(by simp[T.get_set,g101]),(by simp[T.get_set,g0]),by omega,fin (by rw[c3];rfl),rfl⟩
     done
    ·obtain⟨b2,o2',a2,r1,r2,r3,r4⟩:=(ra.fr F03).ix attC_len .i64 ((i:Int)-1) (by omega) (by omega);have r4':at'[i-1]? =some a2:=by rw[←r4];congr 1;omega
     have r2':hload1 h3 b2 o2'=some (.str a2.1):=r2 0 (by omega);have q3:=(hA h3 F03).2.2.2.1;have pe:prevN at' i=some a2.1:=by simp[prevN,c3,r4']
     cases c4:leS a.1 a2.1
     ·simp(maxSteps:=1000000) (disch:=omega) only[evs,↓reduceIte,Nat.reduceEqDiff,Nat.reduceAdd,Nat.reduceMul,Nat.reduceLeDiff,Nat.reduceLT,Int.reduceNeg,DF,eff,Nat.reduceSub,fwrap_i64,c2,c4,g103,g102,g101,g0,q0,q1,q0',q3,r1,r2',aP_sble,show(0:Int)<(i:Int) by omega];refine(roundQ_norm _ _ _).2 ⟨at'.length-(i+1),by omega,F03,i+1,(by simp[T.get_set]),(by simp[T.get_set,g102]),(by simp[T.get_set,g101]),(by simp[T.get_set,g0]),by omega,fin (by rw[pe];simp[prevOK,c4]),rfl⟩
      done
     ·simp(maxSteps:=1000000) (disch:=omega) only[evs,↓reduceIte,Nat.reduceEqDiff,Nat.reduceAdd,Nat.reduceMul,Nat.reduceLeDiff,Nat.reduceLT,Int.reduceNeg,DF,eff,Nat.reduceSub,fwrap_i64,c2,c4,g103,g102,g101,g0,q0,q1,q0',q3,r1,r2',aP_sble,show(0:Int)<(i:Int) by omega];have:=k _ F03;rw[←e,pe,c1,c2]at this;simpa[prevOK,c4]using this
   ·simp(maxSteps:=1000000) (disch:=omega) only[evs,↓reduceIte,Nat.reduceEqDiff,Nat.reduceAdd,Nat.reduceMul,Nat.reduceLeDiff,Nat.reduceLT,Int.reduceNeg,DF,eff,Nat.reduceSub,fwrap_i64,g103,g102,g101,g0,show¬(i:Int)<at'.length by omega];rw[List.drop_of_length_le (by omega)]at e;refine alC_ok F.wf (fun h' f=>hA h' (F.then f)) (rc.fr F) nc ones (by simp[T.get_set,g0]) fun h' f=>?_;have:=k h' (F.then f);rw[←e]at this;simpa[attrsOK]using this
theorem alone_ok{h:Heap}{b o k:Nat}{tg ky tx:Str}{at':List (Str×Str)}{va vc:V}{sub:NT}(w:WF h)(hA:∀h',Fr [] h h'→At6 h' b o (.int .u8 (k:Int)) (.str tg) (.str ky) va (.str tx) vc)
    (ra:Recs attC 2 h va at') (na:at'.length≤4096) (rc:Sl h 6 vc sub.len sub.cells) (nc:sub.len≤4096) (ones:onesB sub.cells=true):
    Does go 103 [.ptr b o] h fun u h'=>u=.bool (aloneB k tg ky at' tx sub)∧Fr [] h h':=by
  have q0:hload1 h b o=some (.int .u8 (k:Int)):=(hA h (Fr.refl w)).1;by_cases c0:k=2
  ·have q4:hload1 h b (o+4)=some (.str tx):=(hA h (Fr.refl w)).2.2.2.2.1;unfold aloneB;rw[if_pos c0];refine does_fn g103x rfl ?_;simp(maxSteps:=1000000) (disch:=omega) only[evs,↓reduceIte,Nat.reduceEqDiff,Nat.reduceAdd,Nat.reduceMul,Nat.reduceLeDiff,Nat.reduceLT,Int.reduceNeg,DF,eff,Nat.reduceSub,fwrap_i64,fn103x,q0,show(k:Int)=2 by omega,q4];refine OQ_does (ntext_ok w) ?_;rintro _ h1 ⟨rfl,F1⟩;obtain⟨_,q1,q2,q3,_,q5,_⟩:=hA h1 F1;have l1:=(ra.fr F1).len;have l2:=(rc.fr F1).len;cases c1:okT tx
   ·simp(maxSteps:=1000000) (disch:=omega) only[evs,↓reduceIte,Nat.reduceEqDiff,Nat.reduceAdd,Nat.reduceMul,Nat.reduceLeDiff,Nat.reduceLT,Int.reduceNeg,DF,eff,Nat.reduceSub,fwrap_i64,c1];exact⟨rfl,F1⟩
   cases c2:tg==[]
   ·simp(maxSteps:=1000000) (disch:=omega) only[evs,↓reduceIte,Nat.reduceEqDiff,Nat.reduceAdd,Nat.reduceMul,Nat.reduceLeDiff,Nat.reduceLT,Int.reduceNeg,DF,eff,Nat.reduceSub,fwrap_i64,c1,q1,aP_sbe,c2];exact⟨rfl,F1⟩
   cases c3:ky==[]
   ·simp(maxSteps:=1000000) (disch:=omega) only[evs,↓reduceIte,Nat.reduceEqDiff,Nat.reduceAdd,Nat.reduceMul,Nat.reduceLeDiff,Nat.reduceLT,Int.reduceNeg,DF,eff,Nat.reduceSub,fwrap_i64,c1,q1,aP_sbe,c2,q2,c3];exact⟨rfl,F1⟩
   by_cases c4:at'.length=0
   ·by_cases c5:sub.len=0
    ·simp(maxSteps:=1000000) (disch:=omega) only[evs,↓reduceIte,Nat.reduceEqDiff,Nat.reduceAdd,Nat.reduceMul,Nat.reduceLeDiff,Nat.reduceLT,Int.reduceNeg,DF,eff,Nat.reduceSub,fwrap_i64,c1,q1,aP_sbe,c2,q2,c3,q3,l1,show((at'.length:Nat):Int)=0 by omega,q5,l2,show((sub.len:Nat):Int)=0 by omega];exact⟨by simp[c4,c5],F1⟩
    ·simp(maxSteps:=1000000) (disch:=omega) only[evs,↓reduceIte,Nat.reduceEqDiff,Nat.reduceAdd,Nat.reduceMul,Nat.reduceLeDiff,Nat.reduceLT,Int.reduceNeg,DF,eff,Nat.reduceSub,fwrap_i64,c1,q1,aP_sbe,c2,q2,c3,q3,l1,show((at'.length:Nat):Int)=0 by omega,q5,l2,show¬((sub.len:Nat):Int)=0 by omega];exact⟨by simp[c5],F1⟩
   ·simp(maxSteps:=1000000) (disch:=omega) only[evs,↓reduceIte,Nat.reduceEqDiff,Nat.reduceAdd,Nat.reduceMul,Nat.reduceLeDiff,Nat.reduceLT,Int.reduceNeg,DF,eff,Nat.reduceSub,fwrap_i64,c1,q1,aP_sbe,c2,q2,c3,q3,l1,show¬((at'.length:Nat):Int)=0 by omega];exact⟨by simp[c4],F1⟩
  ·unfold aloneB;rw[if_neg c0];by_cases c1:k=1
   ·obtain⟨_,q1,q2,q3,q4,q5,_⟩:=hA h (Fr.refl w);have l1:=ra.len;have l2:=rc.len;refine does_fn g103x rfl ?_;simp(maxSteps:=1000000) (disch:=omega) only[evs,↓reduceIte,Nat.reduceEqDiff,Nat.reduceAdd,Nat.reduceMul,Nat.reduceLeDiff,Nat.reduceLT,Int.reduceNeg,DF,eff,Nat.reduceSub,fwrap_i64,fn103x,q0,show¬(k:Int)=2 by omega,show(k:Int)=1 by omega,q1];refine OQ_does named_ok ?_;rintro _ _ ⟨rfl,rfl⟩;cases c2:okN tg
    ·simp(maxSteps:=1000000) (disch:=omega) only[evs,↓reduceIte,Nat.reduceEqDiff,Nat.reduceAdd,Nat.reduceMul,Nat.reduceLeDiff,Nat.reduceLT,Int.reduceNeg,DF,eff,Nat.reduceSub,fwrap_i64,c2];exact⟨by simp,Fr.refl w⟩
    cases ck:ky==[]
    ·simp(maxSteps:=1000000) (disch:=omega) only[evs,↓reduceIte,Nat.reduceEqDiff,Nat.reduceAdd,Nat.reduceMul,Nat.reduceLeDiff,Nat.reduceLT,Int.reduceNeg,DF,eff,Nat.reduceSub,fwrap_i64,c2,q2,aP_sbn,ck];refine OQ_does named_ok ?_;rintro _ _ ⟨rfl,rfl⟩;cases cn:okN ky
     ·simp(maxSteps:=1000000) (disch:=omega) only[evs,↓reduceIte,Nat.reduceEqDiff,Nat.reduceAdd,Nat.reduceMul,Nat.reduceLeDiff,Nat.reduceLT,Int.reduceNeg,DF,eff,Nat.reduceSub,fwrap_i64,c2,q2,aP_sbn,ck,cn];exact⟨by simp,Fr.refl w⟩
     cases ct:tx==[]
     ·simp(maxSteps:=1000000) (disch:=omega) only[evs,↓reduceIte,Nat.reduceEqDiff,Nat.reduceAdd,Nat.reduceMul,Nat.reduceLeDiff,Nat.reduceLT,Int.reduceNeg,DF,eff,Nat.reduceSub,fwrap_i64,c2,q2,aP_sbn,ck,cn,q4,ct];exact⟨by simp,Fr.refl w⟩
     by_cases ca:at'.length≤8
     ·by_cases cs:sub.len≤16
      ·simp(maxSteps:=1000000) (disch:=omega) only[evs,↓reduceIte,Nat.reduceEqDiff,Nat.reduceAdd,Nat.reduceMul,Nat.reduceLeDiff,Nat.reduceLT,Int.reduceNeg,DF,eff,Nat.reduceSub,fwrap_i64,c2,q2,aP_sbn,ck,cn,q4,ct,q3,l1,show¬(8:Int)<(at'.length:Nat) by omega,q5,l2,show¬(16:Int)<(sub.len:Nat) by omega];refine alA_ok w hA ra na rc nc ones (by simp[T.get_set]) fun h' f=>⟨by simp[c1,ca,cs,ck,cn],f⟩
      ·simp(maxSteps:=1000000) (disch:=omega) only[evs,↓reduceIte,Nat.reduceEqDiff,Nat.reduceAdd,Nat.reduceMul,Nat.reduceLeDiff,Nat.reduceLT,Int.reduceNeg,DF,eff,Nat.reduceSub,fwrap_i64,c2,q2,aP_sbn,ck,cn,q4,ct,q3,l1,show¬(8:Int)<(at'.length:Nat) by omega,q5,l2,show(16:Int)<(sub.len:Nat) by omega];exact⟨by simp[cs],Fr.refl w⟩
     ·simp(maxSteps:=1000000) (disch:=omega) only[evs,↓reduceIte,Nat.reduceEqDiff,Nat.reduceAdd,Nat.reduceMul,Nat.reduceLeDiff,Nat.reduceLT,Int.reduceNeg,DF,eff,Nat.reduceSub,fwrap_i64,c2,q2,aP_sbn,ck,cn,q4,ct,q3,l1,show(8:Int)<(at'.length:Nat) by omega];exact⟨by simp[ca],Fr.refl w⟩
    cases ct:tx==[]
    ·simp(maxSteps:=1000000) (disch:=omega) only[evs,↓reduceIte,Nat.reduceEqDiff,Nat.reduceAdd,Nat.reduceMul,Nat.reduceLeDiff,Nat.reduceLT,Int.reduceNeg,DF,eff,Nat.reduceSub,fwrap_i64,c2,q2,aP_sbn,ck,q4,ct];exact⟨by simp,Fr.refl w⟩
    by_cases ca:at'.length≤8
    ·by_cases cs:sub.len≤16
     ·simp(maxSteps:=1000000) (disch:=omega) only[evs,↓reduceIte,Nat.reduceEqDiff,Nat.reduceAdd,Nat.reduceMul,Nat.reduceLeDiff,Nat.reduceLT,Int.reduceNeg,DF,eff,Nat.reduceSub,fwrap_i64,c2,q2,aP_sbn,ck,q4,ct,q3,l1,show¬(8:Int)<(at'.length:Nat) by omega,q5,l2,show¬(16:Int)<(sub.len:Nat) by omega];refine alA_ok w hA ra na rc nc ones (by simp[T.get_set]) fun h' f=>⟨by simp[c1,ca,cs,ck],f⟩
     ·simp(maxSteps:=1000000) (disch:=omega) only[evs,↓reduceIte,Nat.reduceEqDiff,Nat.reduceAdd,Nat.reduceMul,Nat.reduceLeDiff,Nat.reduceLT,Int.reduceNeg,DF,eff,Nat.reduceSub,fwrap_i64,c2,q2,aP_sbn,ck,q4,ct,q3,l1,show¬(8:Int)<(at'.length:Nat) by omega,q5,l2,show(16:Int)<(sub.len:Nat) by omega];exact⟨by simp[cs],Fr.refl w⟩
    ·simp(maxSteps:=1000000) (disch:=omega) only[evs,↓reduceIte,Nat.reduceEqDiff,Nat.reduceAdd,Nat.reduceMul,Nat.reduceLeDiff,Nat.reduceLT,Int.reduceNeg,DF,eff,Nat.reduceSub,fwrap_i64,c2,q2,aP_sbn,ck,q4,ct,q3,l1,show(8:Int)<(at'.length:Nat) by omega];exact⟨by simp[ca],Fr.refl w⟩
   ·refine does_fn g103x rfl ?_;simp(maxSteps:=1000000) (disch:=omega) only[evs,↓reduceIte,Nat.reduceEqDiff,Nat.reduceAdd,Nat.reduceMul,Nat.reduceLeDiff,Nat.reduceLT,Int.reduceNeg,DF,eff,Nat.reduceSub,fwrap_i64,fn103x,q0,show¬(k:Int)=2 by omega,show¬(k:Int)=1 by omega];exact⟨by simp[c1],Fr.refl w⟩
theorem NH.ones{h:Heap}:∀{t:NT},NH h t→onesB t.cells=true
  |.nil,_=>rfl
  |.cons k tg ky _ tx va vc _ nx,⟨_,b,_,d,_,_,g⟩=>by
    show onesB ([.int .u8 (k:Int),.str tg,.str ky,va,.str tx,vc]++nx.cells)=true;rw[onesB_append,NH.ones g];simp only[onesB_cons,onesB_nil,Sl.one b,Sl.one d];rfl
namespace NT
def node(k:Nat)(tg ky:Str)(at':List (Str×Str))(tx:Str)(sub:NT)(w:Nat→Nat→Nat×Bool)(l c:Nat):Nat×Bool:=
  if 6<l∨64<c+1∨aloneB k tg ky at' tx sub=false then(c+1,false)else w (l+1) (c+1)
def walk:NT→Nat→Nat→Nat×Bool
  |nil,_,c=>(c,true)
  |cons k tg ky at' tx _ _ sub nx,l,c=>let r:=node k tg ky at' tx sub sub.walk l c;if r.2=true then nx.walk l r.1 else r
theorem walk_le:∀(t:NT)(l c:Nat),c≤64→(t.walk l c).1≤65∧((t.walk l c).2=true→(t.walk l c).1≤64)
  |nil,_,c,h=>⟨by simp[walk];omega,fun _=>h⟩
  |cons k tg ky at' tx _ _ sub nx,l,c,h=>by
    have q:(node k tg ky at' tx sub sub.walk l c).1≤65∧((node k tg ky at' tx sub sub.walk l c).2=true→(node k tg ky at' tx sub sub.walk l c).1≤64):=by
      unfold node;split
      ·exact⟨by simp;omega,fun e=>by cases e⟩
      ·rename_i x;exact walk_le sub (l+1) (c+1) (by omega)
    simp only[walk];split
    ·rename_i x;exact walk_le nx l _ (q.2 x)
    ·exact q
theorem node_le(k:Nat)(tg ky:Str)(at':List (Str×Str))(tx:Str)(sub:NT)(l c:Nat)(h:c≤64):(node k tg ky at' tx sub sub.walk l c).1≤65∧((node k tg ky at' tx sub sub.walk l c).2=true→(node k tg ky at' tx sub sub.walk l c).1≤64):=by
  unfold node;split
  ·exact⟨by simp;omega,fun e=>by cases e⟩
  ·exact walk_le sub (l+1) (c+1) (by omega)
end NT
/-- the function that measures, in memory -/
structure Ms(h0 h:Heap)(bc bd bw:Nat)(c d:Nat):Prop where
  f:Fr [] h0 h
  oc:Own h bc [.int .i64 (c:Int)]
  od:Own h bd [.int .i64 (d:Int)]
  ow:Own h bw [.func (.func 102) [] [.ptr bc 0,.ptr bd 0,.ptr bw 0]]
  dl:d≤7
structure MsB(h0:Heap)(bc bd bw:Nat):Prop where
  w:WF h0
  c:h0.next≤bc
  d:h0.next≤bd
  b:h0.next≤bw
  cd:bc≠bd
  cw:bc≠bw
  dw:bd≠bw
theorem Ms.fr{h0 h h':Heap}{bc bd bw c d:Nat}(m:Ms h0 h bc bd bw c d)(f:Fr [] h h'):Ms h0 h' bc bd bw c d:=⟨m.f.then f,f.get m.oc,f.get m.od,f.get m.ow,m.dl⟩
def EachOK(h0:Heap)(k:Nat)(tg ky:Str)(at':List (Str×Str))(tx:Str)(va vc:V)(sub:NT):Prop:=
  ∀(h:Heap)(b o bc bd bw l c d:Nat),MsB h0 bc bd bw→Ms h0 h bc bd bw c d→(∀h',Fr [] h0 h'→At6 h' b o (.int .u8 (k:Int)) (.str tg) (.str ky) va (.str tx) vc)→l≤7→c≤64→
    Does go 102 [.ptr b o,.int .i64 (l:Int),.ptr bc 0,.ptr bd 0,.ptr bw 0] h fun u h'=>u=.bool (NT.node k tg ky at' tx sub sub.walk l c).2∧∃d',Ms h0 h' bc bd bw (NT.node k tg ky at' tx sub sub.walk l c).1 d'
def AllE(h0:Heap):NT→Prop
  |.nil=>True
  |.cons k tg ky at' tx va vc sub nx=>EachOK h0 k tg ky at' tx va vc sub∧AllE h0 nx
theorem AllE.at'{h:Heap}:∀{t:NT}(i:Nat),AllE h t→AllE h (t.at' i)
  |.nil,0,_=>trivial
  |.nil,_+1,_=>trivial
  |.cons _ _ _ _ _ _ _ _ _,0,a=>a
  |.cons _ _ _ _ _ _ _ _ _,i+1,⟨_,g⟩=>AllE.at' i g
theorem each_ok{h0:Heap}{k:Nat}{tg ky:Str}{at':List (Str×Str)}{tx:Str}{va vc:V}{sub:NT}
    (ra:Recs attC 2 h0 va at') (na:at'.length≤4096) (rc:Sl h0 6 vc sub.len sub.cells) (nc:sub.len≤4096) (ns:NH h0 sub) (A:AllE h0 sub):EachOK h0 k tg ky at' tx va vc sub:=by
  intro h b o bc bd bw l c d B M hA hl hc;have lc:hload1 h bc 0=some (.int .i64 (c:Int)):=M.oc.ld1 0;refine does_fn g102 rfl ?_;simp(maxSteps:=1000000) (disch:=omega) only[fn102,evs,↓reduceIte,Nat.reduceEqDiff,Nat.reduceAdd,Nat.reduceMul,Nat.reduceLeDiff,Nat.reduceLT,Int.reduceNeg,DF,eff,Nat.reduceSub,fwrap_i64,lc];refine store_step (c':=[.int .i64 ((c+1:Nat):Int)]) M.f.wf M.oc rfl rfl rfl ?_;rintro h1 o1 F1 n1;have od1:Own h1 bd [.int .i64 (d:Int)]:=F1.own _ _ (by simpa using B.cd.symm) M.od;have ld:hload1 h1 bd 0=some (.int .i64 (d:Int)):=od1.ld1 0;simp(maxSteps:=1000000) (disch:=omega) only[evs,↓reduceIte,Nat.reduceEqDiff,Nat.reduceAdd,Nat.reduceMul,Nat.reduceLeDiff,Nat.reduceLT,Int.reduceNeg,DF,eff,Nat.reduceSub,fwrap_i64,ld];have dl:=M.dl;refine store_step (c':=[.int .i64 ((max d l:Nat):Int)]) F1.wf od1 rfl rfl (by rw[show((max d l:Nat):Int)=max (d:Int) (l:Int) by omega];rfl) ?_;rintro h2 o2 F2 n2;have M2:Ms h0 h2 bc bd bw (c+1) (max d l):=by
    refine⟨?_,F2.own _ _ (by simpa using B.cd) o1,o2,F2.own _ _ (by simpa using B.dw.symm) (F1.own _ _ (by simpa using B.cw.symm) M.ow),by omega⟩;exact Fr.trans (Fr.trans M.f F1 B.w (fun x hx=>.inl hx) (fun x hx=>.inr (by simp at hx;subst hx;exact B.c))) F2 B.w (fun x hx=>.inl hx) (fun x hx=>.inr (by simp at hx;subst hx;exact B.d))
  have lc2:hload1 h2 bc 0=some (.int .i64 ((c+1:Nat):Int)):=M2.oc.ld1 0;by_cases c1:6<l
  ·have e:NT.node k tg ky at' tx sub sub.walk l c=(c+1,false):=if_pos (.inl c1);simp(maxSteps:=1000000) (disch:=omega) only[evs,↓reduceIte,Nat.reduceEqDiff,Nat.reduceAdd,Nat.reduceMul,Nat.reduceLeDiff,Nat.reduceLT,Int.reduceNeg,DF,eff,Nat.reduceSub,fwrap_i64,show(6:Int)<(l:Int) by omega];rw[e];exact⟨rfl,_,M2⟩
  by_cases c2:64<c+1
  ·have e:NT.node k tg ky at' tx sub sub.walk l c=(c+1,false):=if_pos (.inr (.inl c2));simp(maxSteps:=1000000) (disch:=omega) only[evs,↓reduceIte,Nat.reduceEqDiff,Nat.reduceAdd,Nat.reduceMul,Nat.reduceLeDiff,Nat.reduceLT,Int.reduceNeg,DF,eff,Nat.reduceSub,fwrap_i64,show¬(6:Int)<(l:Int) by omega,lc2,show(64:Int)<((c+1:Nat):Int) by omega];rw[e];exact⟨rfl,_,M2⟩
  simp(maxSteps:=1000000) (disch:=omega) only[evs,↓reduceIte,Nat.reduceEqDiff,Nat.reduceAdd,Nat.reduceMul,Nat.reduceLeDiff,Nat.reduceLT,Int.reduceNeg,DF,eff,Nat.reduceSub,fwrap_i64,show¬(6:Int)<(l:Int) by omega,lc2,show¬(64:Int)<((c+1:Nat):Int) by omega];refine OQ_does (alone_ok M2.f.wf (fun h' f=>hA h' (M2.f.then f)) (ra.fr M2.f) na (rc.fr M2.f) nc ns.ones) ?_;rintro _ h3 ⟨rfl,F3⟩;have M3:=M2.fr F3;cases c3:aloneB k tg ky at' tx sub
  ·have e:NT.node k tg ky at' tx sub sub.walk l c=(c+1,false):=if_pos (.inr (.inr c3));simp(maxSteps:=1000000) (disch:=omega) only[evs,↓reduceIte,Nat.reduceEqDiff,Nat.reduceAdd,Nat.reduceMul,Nat.reduceLeDiff,Nat.reduceLT,Int.reduceNeg,DF,eff,Nat.reduceSub,fwrap_i64,c3];rw[e];exact⟨rfl,_,M3⟩
  have e:NT.node k tg ky at' tx sub sub.walk l c=sub.walk (l+1) (c+1):=if_neg (by simp[c3];omega);rw[e];have q5:=(hA h3 M3.f).2.2.2.2.2.1;simp(maxSteps:=1000000) (disch:=omega) only[evs,↓reduceIte,Nat.reduceEqDiff,Nat.reduceAdd,Nat.reduceMul,Nat.reduceLeDiff,Nat.reduceLT,Int.reduceNeg,DF,eff,Nat.reduceSub,fwrap_i64,c3,q5,(rc.fr M3.f).len];refine W_loop (fun n env hh=>∃(i c' d':Nat),Ms h0 hh bc bd bw c' d'∧env.get 30=some (.int .i64 i)∧env.get 29=some (.int .i64 sub.len)∧env.get 0=some (.ptr b o)∧env.get 1=some (.int .i64 l)∧env.get 4=some (.ptr bw 0)∧
      i≤sub.len∧c'≤64∧(sub.at' i).walk (l+1) c'=sub.walk (l+1) (c+1)∧n=sub.len-i) sub.len (by omega) ?_ ?_
  ·exact⟨0,c+1,max d l,M3,(by simp[T.get_set]),(by simp[T.get_set]),(by simp[T.get_set]),(by simp[T.get_set]),(by simp[T.get_set]),by omega,by omega,by cases sub<;>rfl,rfl⟩
  ·rintro n env hh ⟨i,c',d',M',g30,g29,g0,g1,g4,hi,hc',e',rfl⟩;by_cases hlt:i<sub.len
   ·obtain⟨kd,tg',ky',at2,tx',va',vc',sb,nx,e1,e2,e3,e4,e5,e6⟩:=sub.split i hlt;have hlt':(i:Int)<sub.len:=by omega
    have a:=A.at' i;rw[e1]at a e';obtain⟨b',o',p1,_⟩:=(rc.fr M'.f).ix6 hlt e2;have hA':∀h',Fr [] h0 h'→At6 h' b' o' (.int .u8 (kd:Int)) (.str tg') (.str ky') va' (.str tx') vc':=fun h' f=>by
      obtain⟨b2,o2,p1',p2'⟩:=(rc.fr f).ix6 hlt e2;rw[p1]at p1';cases p1';exact p2'
    have q5:=(hA hh M'.f).2.2.2.2.2.1;have lw:hload1 hh bw 0=some (.func (.func 102) [] [.ptr bc 0,.ptr bd 0,.ptr bw 0]):=M'.ow.ld1 0;simp(maxSteps:=1000000) (disch:=omega) only[evs,↓reduceIte,Nat.reduceEqDiff,Nat.reduceAdd,Nat.reduceMul,Nat.reduceLeDiff,Nat.reduceLT,Int.reduceNeg,DF,eff,Nat.reduceSub,fwrap_i64,g30,g29,g0,g1,g4,hlt',lw,q5,p1];refine OQ_does (a.1 hh b' o' bc bd bw (l+1) c' d' B M' hA' (by omega) hc') ?_;rintro _ h4 ⟨rfl,d4,M4⟩;simp only[NT.walk]at e';have nl:=NT.node_le kd tg' ky' at2 tx' sb (l+1) c' hc';cases c4:(NT.node kd tg' ky' at2 tx' sb sb.walk (l+1) c').2
    ·rw[c4]at e';simp(maxSteps:=1000000) (disch:=omega) only[evs,↓reduceIte,Nat.reduceEqDiff,Nat.reduceAdd,Nat.reduceMul,Nat.reduceLeDiff,Nat.reduceLT,Int.reduceNeg,DF,eff,Nat.reduceSub,fwrap_i64,c4,g30,g29,g0,g1,g4,lw,q5,(hA h4 M4.f).2.2.2.2.2.1];rw[←e'];exact⟨by simp[c4],d4,by simpa using M4⟩
    ·rw[c4]at e';simp(maxSteps:=1000000) (disch:=omega) only[evs,↓reduceIte,Nat.reduceEqDiff,Nat.reduceAdd,Nat.reduceMul,Nat.reduceLeDiff,Nat.reduceLT,Int.reduceNeg,DF,eff,Nat.reduceSub,fwrap_i64,c4,g30,g29,g0,g1,g4,lw,q5,(hA h4 M4.f).2.2.2.2.2.1];refine(roundQ_norm _ _ _).2 ⟨sub.len-(i+1),by omega,i+1,_,d4,M4,(by simp[T.get_set]),(by simp[T.get_set,g29]),(by simp[T.get_set,g0]),(by simp[T.get_set,g1]),(by simp[T.get_set,g4]),by omega,nl.2 c4,?_,rfl⟩;rw[e3];simpa using e'
   ·simp(maxSteps:=1000000) (disch:=omega) only[evs,↓reduceIte,Nat.reduceEqDiff,Nat.reduceAdd,Nat.reduceMul,Nat.reduceLeDiff,Nat.reduceLT,Int.reduceNeg,DF,eff,Nat.reduceSub,fwrap_i64,g30,g29,g0,g1,g4,show¬(i:Int)<sub.len by omega];rw[NT.at_end _ _ (by omega)]at e';rw[←e'];exact⟨rfl,d',M'⟩
theorem allE{h:Heap}:∀{t:NT},NH h t→AllE h t
  |.nil,_=>trivial
  |.cons _ _ _ _ _ _ _ _ _,⟨_,b,c,d,e,f,g⟩=>⟨each_ok b c d e f (allE f),allE g⟩
/-- the number of nodes of a tree, 0 if it is not valid -/
def NT.count(k:Nat)(tg ky:Str)(at':List (Str×Str))(tx:Str)(sub:NT):Nat:=
  if(node k tg ky at' tx sub sub.walk 1 0).2=true then(node k tg ky at' tx sub sub.walk 1 0).1 else 0
theorem measure_ok{h:Heap}{k:Nat}{tg ky:Str}{at':List (Str×Str)}{tx:Str}{va vc:V}{sub:NT}(w:WF h)(n:NH h (.cons k tg ky at' tx va vc sub .nil)):
    Does go 70 [.agg [.int .u8 (k:Int),.str tg,.str ky,va,.str tx,vc]] h fun u h'=>∃d:Nat,u=.tup [.int .i64 (NT.count k tg ky at' tx sub:Nat),.int .i64 (d:Int)]∧Fr [] h h':=by
  obtain⟨h1,e_h1⟩:∃h1,h1=halloc h [.int .u8 (k:Int),.str tg,.str ky,va,.str tx,vc]:=⟨_,rfl⟩;have F_h1:Fr [] h h1:=e_h1▸Fr.halloc w _;have o_h1:Own h1 h.next [.int .u8 (k:Int),.str tg,.str ky,va,.str tx,vc]:=e_h1▸Own.new w _;obtain⟨h2,e_h2⟩:∃h2,h2=halloc h1 [.int .i64 0]:=⟨_,rfl⟩;have F_h2:Fr [] h1 h2:=e_h2▸Fr.halloc F_h1.wf _;have o_h2:Own h2 h1.next [.int .i64 0]:=e_h2▸Own.new F_h1.wf _;obtain⟨h3,e_h3⟩:∃h3,h3=halloc h2 [.int .i64 0]:=⟨_,rfl⟩;have F_h3:Fr [] h2 h3:=e_h3▸Fr.halloc F_h2.wf _;have o_h3:Own h3 h2.next [.int .i64 0]:=e_h3▸Own.new F_h2.wf _;obtain⟨h4,e_h4⟩:∃h4,h4=halloc h3 [.nilf]:=⟨_,rfl⟩;have F_h4:Fr [] h3 h4:=e_h4▸Fr.halloc F_h3.wf _;have o_h4:Own h4 h3.next [.nilf]:=e_h4▸Own.new F_h3.wf _;have n1:h1.next=h.next+1:=by rw[e_h1];rfl
  have n2:h2.next=h1.next+1:=by rw[e_h2];rfl
  have n3:h3.next=h2.next+1:=by rw[e_h3];rfl
  refine does_fn g70 rfl ?_;simp(maxSteps:=1000000) (disch:=omega) only[fn70,evs,↓reduceIte,Nat.reduceEqDiff,Nat.reduceAdd,Nat.reduceMul,Nat.reduceLeDiff,Nat.reduceLT,Int.reduceNeg,DF,eff,Nat.reduceSub,fwrap_i64,←e_h1,←e_h2,←e_h3,←e_h4];refine store_step (c':=[.func (.func 102) [] [.ptr h1.next 0,.ptr h2.next 0,.ptr h3.next 0]]) F_h4.wf o_h4 rfl rfl rfl ?_;rintro h5 o5 F5 n5;have F15:Fr [] h1 h5:=Fr.new F_h1.wf (F_h2.then (F_h3.then F_h4)) F5 (by simp;omega);have ob:=F15.get o_h1;have B:MsB h1 h1.next h2.next h3.next:=⟨F_h1.wf,Nat.le_refl _,by omega,by omega,by omega,by omega,by omega⟩;have M:Ms h1 h5 h1.next h2.next h3.next 0 0:=⟨F15,F5.own _ _ (by simp;omega) (F_h4.get (F_h3.get o_h2)),F5.own _ _ (by simp;omega) (F_h4.get o_h3),o5,by omega⟩;have lw:hload1 h5 h3.next 0=some (.func (.func 102) [] [.ptr h1.next 0,.ptr h2.next 0,.ptr h3.next 0]):=o5.ld1 0;have A:=(allE (n.fr F_h1)).1;simp(maxSteps:=1000000) (disch:=omega) only[evs,↓reduceIte,Nat.reduceEqDiff,Nat.reduceAdd,Nat.reduceMul,Nat.reduceLeDiff,Nat.reduceLT,Int.reduceNeg,DF,eff,Nat.reduceSub,fwrap_i64,lw];refine OQ_does (A h5 h.next 0 h1.next h2.next h3.next 1 0 0 B M (fun h' f=>(f.get o_h1).at6) (by omega) (by omega)) ?_;rintro _ h6 ⟨rfl,d,M6⟩;unfold NT.count;cases c:(NT.node k tg ky at' tx sub sub.walk 1 0).2
  ·simp(maxSteps:=1000000) (disch:=omega) only[evs,↓reduceIte,Nat.reduceEqDiff,Nat.reduceAdd,Nat.reduceMul,Nat.reduceLeDiff,Nat.reduceLT,Int.reduceNeg,DF,eff,Nat.reduceSub,fwrap_i64,c];refine store_step (c':=[.int .i64 0]) M6.f.wf M6.oc rfl rfl rfl ?_;rintro h7 o7 F7 n7;have od7:=F7.own _ _ (by simp;omega) M6.od;simp(maxSteps:=1000000) (disch:=omega) only[evs,↓reduceIte,Nat.reduceEqDiff,Nat.reduceAdd,Nat.reduceMul,Nat.reduceLeDiff,Nat.reduceLT,Int.reduceNeg,DF,eff,Nat.reduceSub,fwrap_i64];refine store_step (c':=[.int .i64 0]) F7.wf od7 rfl rfl rfl ?_;rintro h8 o8 F8 n8;have a7:hload1 h8 h1.next 0=some (.int .i64 0):=(F8.own _ _ (by simp;omega) o7).ld1 0;have a8:hload1 h8 h2.next 0=some (.int .i64 0):=o8.ld1 0;simp(maxSteps:=1000000) (disch:=omega) only[evs,↓reduceIte,Nat.reduceEqDiff,Nat.reduceAdd,Nat.reduceMul,Nat.reduceLeDiff,Nat.reduceLT,Int.reduceNeg,DF,eff,Nat.reduceSub,fwrap_i64,a7,a8];refine⟨0,by simp,?_⟩;exact Fr.new w F_h1 (Fr.trans (T:=[h1.next,h2.next]) (Fr.trans (T:=[h1.next,h2.next]) M6.f F7 F_h1.wf (by simp) (by simp)) F8 F_h1.wf (by simp) (by simp)) (by simp;omega)
  ·have lc:hload1 h6 h1.next 0=some (.int .i64 ((NT.node k tg ky at' tx sub sub.walk 1 0).1:Int)):=M6.oc.ld1 0;have ld:hload1 h6 h2.next 0=some (.int .i64 (d:Int)):=M6.od.ld1 0;simp(maxSteps:=1000000) (disch:=omega) only[evs,↓reduceIte,Nat.reduceEqDiff,Nat.reduceAdd,Nat.reduceMul,Nat.reduceLeDiff,Nat.reduceLT,Int.reduceNeg,DF,eff,Nat.reduceSub,fwrap_i64,c,lc,ld];refine store_step (c':=[.int .i64 ((NT.node k tg ky at' tx sub sub.walk 1 0).1:Int)]) M6.f.wf M6.oc rfl rfl rfl ?_;rintro h7 o7 F7 n7;have od7:=F7.own _ _ (by simp;omega) M6.od;have ld7:hload1 h7 h2.next 0=some (.int .i64 (d:Int)):=od7.ld1 0;simp(maxSteps:=1000000) (disch:=omega) only[evs,↓reduceIte,Nat.reduceEqDiff,Nat.reduceAdd,Nat.reduceMul,Nat.reduceLeDiff,Nat.reduceLT,Int.reduceNeg,DF,eff,Nat.reduceSub,fwrap_i64,c,lc,ld,ld7];refine store_step (c':=[.int .i64 (d:Int)]) F7.wf od7 rfl rfl rfl ?_;rintro h8 o8 F8 n8;have a7:hload1 h8 h1.next 0=some (.int .i64 ((NT.node k tg ky at' tx sub sub.walk 1 0).1:Int)):=(F8.own _ _ (by simp;omega) o7).ld1 0;have a8:hload1 h8 h2.next 0=some (.int .i64 (d:Int)):=o8.ld1 0;simp(maxSteps:=1000000) (disch:=omega) only[evs,↓reduceIte,Nat.reduceEqDiff,Nat.reduceAdd,Nat.reduceMul,Nat.reduceLeDiff,Nat.reduceLT,Int.reduceNeg,DF,eff,Nat.reduceSub,fwrap_i64,lc,ld,ld7,a7,a8];refine⟨d,by simp,?_⟩;exact Fr.new w F_h1 (Fr.trans (T:=[h1.next,h2.next]) (Fr.trans (T:=[h1.next,h2.next]) M6.f F7 F_h1.wf (by simp) (by simp)) F8 F_h1.wf (by simp) (by simp)) (by simp;omega)
theorem ncount_ok{h:Heap}{k:Nat}{tg ky:Str}{at':List (Str×Str)}{tx:Str}{va vc:V}{sub:NT}(w:WF h)(n:NH h (.cons k tg ky at' tx va vc sub .nil)):
    Does go 44 [.agg [.int .u8 (k:Int),.str tg,.str ky,va,.str tx,vc]] h fun u h'=>u=.int .i64 (NT.count k tg ky at' tx sub:Nat)∧Fr [] h h':=by
  obtain⟨h1,e_h1⟩:∃h1,h1=halloc h [.int .u8 (k:Int),.str tg,.str ky,va,.str tx,vc]:=⟨_,rfl⟩;have F_h1:Fr [] h h1:=e_h1▸Fr.halloc w _;have o_h1:Own h1 h.next [.int .u8 (k:Int),.str tg,.str ky,va,.str tx,vc]:=e_h1▸Own.new w _;refine does_fn g44 rfl ?_;simp(maxSteps:=1000000) (disch:=omega) only[fn44,evs,↓reduceIte,Nat.reduceEqDiff,Nat.reduceAdd,Nat.reduceMul,Nat.reduceLeDiff,Nat.reduceLT,Int.reduceNeg,DF,eff,Nat.reduceSub,fwrap_i64,←e_h1,o_h1.at6.2.2.2.2.2.2];refine OQ_does (measure_ok F_h1.wf (n.fr F_h1)) ?_;rintro _ h2 ⟨d,rfl,F2⟩;simp(maxSteps:=1000000) (disch:=omega) only[evs,↓reduceIte,Nat.reduceEqDiff,Nat.reduceAdd,Nat.reduceMul,Nat.reduceLeDiff,Nat.reduceLT,Int.reduceNeg,DF,eff,Nat.reduceSub,fwrap_i64];exact F_h1.then F2
theorem ncheck_ok{h:Heap}{k:Nat}{tg ky:Str}{at':List (Str×Str)}{tx:Str}{va vc:V}{sub:NT}(w:WF h)(n:NH h (.cons k tg ky at' tx va vc sub .nil)):
    Does go 23 [.agg [.int .u8 (k:Int),.str tg,.str ky,va,.str tx,vc]] h fun u h'=>u=.int .i64 (if NT.count k tg ky at' tx sub=0 then 14 else 0)∧Fr [] h h':=by
  obtain⟨h1,e_h1⟩:∃h1,h1=halloc h [.int .u8 (k:Int),.str tg,.str ky,va,.str tx,vc]:=⟨_,rfl⟩;have F_h1:Fr [] h h1:=e_h1▸Fr.halloc w _;have o_h1:Own h1 h.next [.int .u8 (k:Int),.str tg,.str ky,va,.str tx,vc]:=e_h1▸Own.new w _;by_cases c:NT.count k tg ky at' tx sub=0
  ·refine does_fn g23 rfl ?_;simp(maxSteps:=1000000) (disch:=omega) only[fn23,evs,↓reduceIte,Nat.reduceEqDiff,Nat.reduceAdd,Nat.reduceMul,Nat.reduceLeDiff,Nat.reduceLT,Int.reduceNeg,DF,eff,Nat.reduceSub,fwrap_i64,←e_h1,o_h1.at6.2.2.2.2.2.2];refine OQ_does (ncount_ok F_h1.wf (n.fr F_h1)) ?_;rintro _ h2 ⟨rfl,F2⟩;simp(maxSteps:=1000000) (disch:=omega) only[evs,↓reduceIte,Nat.reduceEqDiff,Nat.reduceAdd,Nat.reduceMul,Nat.reduceLeDiff,Nat.reduceLT,Int.reduceNeg,DF,eff,Nat.reduceSub,fwrap_i64,show((NT.count k tg ky at' tx sub:Nat):Int)=0 by omega];exact⟨by rw[if_pos c],F_h1.then F2⟩
  ·refine does_fn g23 rfl ?_;simp(maxSteps:=1000000) (disch:=omega) only[fn23,evs,↓reduceIte,Nat.reduceEqDiff,Nat.reduceAdd,Nat.reduceMul,Nat.reduceLeDiff,Nat.reduceLT,Int.reduceNeg,DF,eff,Nat.reduceSub,fwrap_i64,←e_h1,o_h1.at6.2.2.2.2.2.2];refine OQ_does (ncount_ok F_h1.wf (n.fr F_h1)) ?_;rintro _ h2 ⟨rfl,F2⟩;simp(maxSteps:=1000000) (disch:=omega) only[evs,↓reduceIte,Nat.reduceEqDiff,Nat.reduceAdd,Nat.reduceMul,Nat.reduceLeDiff,Nat.reduceLT,Int.reduceNeg,DF,eff,Nat.reduceSub,fwrap_i64,show¬((NT.count k tg ky at' tx sub:Nat):Int)=0 by omega];exact⟨by rw[if_neg c],F_h1.then F2⟩
/-- it holds later too, if nothing is written to but what does not satisfy P, and what was not there -/
def Stab(P:Nat→Prop)(h:Heap)(Φ:Heap→Prop):Prop:=∀(X:List Nat)(h':Heap),(∀x∈X,¬P x∨h.next≤x)→Fr X h h'→Φ h'
section
variable {P Q : Nat → Prop} {h h1 : Heap} {Φ Ψ : Heap → Prop} {X : List Nat} {b B e n : Nat} {c cs : List V} {v : V}
theorem Stab.now(s:Stab P h Φ)(w:WF h):Φ h:=s [] h (by simp) (Fr.refl w)
theorem Stab.and(s:Stab P h Φ)(t:Stab P h Ψ):Stab P h fun h=>Φ h∧Ψ h:=fun X h' hx f=>⟨s X h' hx f,t X h' hx f⟩
theorem Stab.imp(s:Stab P h Φ)(i:∀h,Φ h→Ψ h):Stab P h Ψ:=fun X h' hx f=>i _ (s X h' hx f)
theorem Stab.const{p:Prop}(x:p):Stab P h fun _=>p:=fun _ _ _ _=>x
theorem Stab.fr(s:Stab P h Φ)(w:WF h)(f:Fr X h h1)(hx:∀x∈X,¬P x∨h.next≤x):Stab P h1 Φ:=fun Y h2 hy g=>
  s (X++Y) h2 (fun z hz=>(List.mem_append.1 hz).elim (hx z) fun m=>(hy z m).imp id fun q=>Nat.le_trans f.next q)
    (f.trans g w (fun z m=>.inl (List.mem_append_left _ m)) (fun z m=>.inl (List.mem_append_right _ m)))
theorem Stab.fr0(s:Stab P h Φ)(w:WF h)(f:Fr [] h h1):Stab P h1 Φ:=s.fr w f (by simp)
theorem Stab.wk(s:Stab P h Φ)(i:∀b,b<h.next→P b→Q b):Stab Q h Φ:=fun X h' hx f=>s X h' (fun x m=>by
  rcases hx x m with q|q
  ·by_cases c:h.next≤x
   ·exact .inr c
   ·exact .inl fun p=>q (i x (by omega) p)
  ·exact .inr q) f
theorem Stab.own(w:WF h)(o:Own h b c)(p:P b):Stab P h fun h=>Own h b c:=fun X h' hx f=>f.own b c (fun m=>(hx b m).elim (fun q=>q p) fun q=>by have:=o.lt w;omega) o
theorem Stab.gs(w:WF h)(g:Gs h B e v cs)(p:∀b∈vb v,P b):Stab P h fun h=>Gs h B e v cs:=by
  rcases g with⟨rfl,rfl⟩|⟨b,n,rfl,h1,h2,h3,o⟩
  ·exact fun _ _ _ _=>.inl ⟨rfl,rfl⟩
  ·exact(Stab.own w o (p b (by simp[vb]))).imp fun h o=>.inr ⟨b,n,rfl,h1,h2,h3,o⟩
theorem Stab.gn(w:WF h)(g:Gn e h B v n cs)(p:∀b,B≤b→P b):Stab P h fun h=>Gn e h B v n cs:=by
  obtain⟨hl,⟨rfl,rfl|⟨b,hb,rfl,o⟩⟩|⟨b,hb,rfl,o⟩⟩:=g
  ·exact fun _ _ _ _=>⟨hl,.inl ⟨rfl,.inl rfl⟩⟩
  ·exact(Stab.own w o (p b hb)).imp fun h o=>⟨hl,.inl ⟨rfl,.inr ⟨b,hb,rfl,o⟩⟩⟩
  ·exact(Stab.own w o (p b hb)).imp fun h o=>⟨hl,.inr ⟨b,hb,rfl,o⟩⟩
end
inductive CT where
  |nil
  |cons (kind:Nat) (tag key:Str) (attrs:List (Str×Str)) (text:Str) (sub next:CT)
def NT.ct:NT→CT
  |.nil=>.nil
  |.cons k tg ky at' tx _ _ sub nx=>.cons k tg ky at' tx sub.ct nx.ct
namespace CT
def len:CT→Nat
  |nil=>0
  |cons _ _ _ _ _ _ nx=>nx.len+1
def keys:CT→List Str
  |nil=>[]
  |cons _ _ ky _ _ _ nx=>ky::nx.keys
def size:CT→Nat
  |nil=>0
  |cons _ _ _ _ _ sub nx=>1+sub.size+nx.size
def strip:CT→CT
  |nil=>nil
  |cons k tg _ at' tx sub nx=>cons k tg [] at' tx sub.strip nx.strip
def eqb:CT→CT→Bool
  |nil,nil=>true
  |nil,cons _ _ _ _ _ _ _=>false
  |cons _ _ _ _ _ _ _,nil=>false
  |cons k tg ky at' tx sub nx,cons k' tg' ky' at2 tx' sub' nx'=>(decide (k=k')&&(tg==tg'&&(ky==ky'&&(tx==tx'&&(at'==at2&&sub.eqb sub')))))&&nx.eqb nx'
def aloneC(k:Nat)(tg ky:Str)(at':List (Str×Str))(tx:Str)(n:Nat)(ks:List Str):Bool:=
  if k=2 then okT tx&&(tg==[]&&(ky==[]&&(decide (at'.length=0)&&decide (n=0))))
  else decide (k=1)&&(okN tg&&((ky==[]||okN ky)&&(tx==[]&&(decide (at'.length≤8)&&(decide (n≤16)&&(attrsOK none at'&&keysOK [] ks))))))
def good:CT→Nat→Prop
  |nil,_=>True
  |cons k tg ky at' tx sub nx,l=>l≤6∧aloneC k tg ky at' tx sub.len sub.keys=true∧sub.good (l+1)∧nx.good l
theorem eqb_eq:∀a b:CT,a.eqb b=true↔a=b
  |nil,nil=>by simp[eqb]
  |nil,cons _ _ _ _ _ _ _=>by simp[eqb]
  |cons _ _ _ _ _ _ _,nil=>by simp[eqb]
  |cons k tg ky at' tx sub nx,cons k' tg' ky' at2 tx' sub' nx'=>by
    simp only[eqb,Bool.and_eq_true,decide_eq_true_eq,beq_iff_eq,eqb_eq sub sub',eqb_eq nx nx',cons.injEq];constructor
    ·rintro⟨⟨a,b,c,d,e,f⟩,g⟩;exact⟨a,b,c,e,d,f,g⟩
    ·rintro⟨a,b,c,e,d,f,g⟩;exact⟨⟨a,b,c,d,e,f⟩,g⟩
theorem eqb_self(a:CT):a.eqb a=true:=(eqb_eq a a).2 rfl
theorem eqb_comm(a b:CT):a.eqb b=b.eqb a:=by
  rw[Bool.eq_iff_iff,eqb_eq,eqb_eq];exact⟨Eq.symm,Eq.symm⟩
theorem strip_len:∀t:CT,t.strip.len=t.len
  |nil=>rfl
  |cons _ _ _ _ _ _ nx=>by simp[strip,len,strip_len nx]
theorem strip_size:∀t:CT,t.strip.size=t.size
  |nil=>rfl
  |cons _ _ _ _ _ sub nx=>by simp[strip,size,strip_size sub,strip_size nx]
theorem strip_keys:∀t:CT,∀k∈t.strip.keys,k=[]
  |nil=>by simp[strip,keys]
  |cons _ _ _ _ _ _ nx=>by simpa[strip,keys]using strip_keys nx
theorem keysOK_nil:∀(ks pr:List Str),(∀k∈ks,k=[])→keysOK pr ks=true
  |[],_,_=>rfl
  |k::r,pr,h=>by
    rw[keysOK_cons,h k (by simp),keysOK_nil r _ fun x m=>h x (by simp[m])];simp
theorem strip_good:∀(t:CT)(l:Nat),t.good l→t.strip.good l
  |nil,_,_=>trivial
  |cons k tg ky at' tx sub nx,l,⟨hl,ha,hs,hn⟩=>by
    refine⟨hl,?_,strip_good sub _ hs,strip_good nx _ hn⟩;unfold aloneC at ha⊢;rw[strip_len,keysOK_nil _ _ (strip_keys sub)];split
    ·rename_i c;rw[if_pos c]at ha;simp only[Bool.and_eq_true]at ha⊢;exact⟨ha.1,ha.2.1,rfl,ha.2.2.2⟩
    ·rename_i c;rw[if_neg c]at ha;simp only[Bool.and_eq_true]at ha⊢;exact⟨ha.1,ha.2.1,rfl,ha.2.2.2.1,ha.2.2.2.2.1,ha.2.2.2.2.2.1,ha.2.2.2.2.2.2.1,trivial⟩
end CT
namespace NT
theorem ct_len:∀t:NT,t.ct.len=t.len
  |nil=>rfl
  |cons _ _ _ _ _ _ _ _ nx=>by simp[ct,CT.len,len,ct_len nx]
theorem ct_keys:∀t:NT,t.ct.keys=t.keys
  |nil=>rfl
  |cons _ _ _ _ _ _ _ _ nx=>by simp[ct,CT.keys,keys,ct_keys nx]
theorem alone_ct(k:Nat)(tg ky:Str)(at':List (Str×Str))(tx:Str)(sub:NT):aloneB k tg ky at' tx sub=CT.aloneC k tg ky at' tx sub.ct.len sub.ct.keys:=by
  unfold aloneB CT.aloneC;rw[ct_len,ct_keys]
theorem walk_good:∀(t:NT)(l c:Nat),t.ct.good l→c+t.ct.size≤64→t.walk l c=(c+t.ct.size,true)
  |nil,_,_,_,_=>rfl
  |cons k tg ky at' tx va vc sub nx,l,c,⟨hl,ha,hs,hn⟩,hc=>by
    simp only[ct,CT.size]at hc⊢;have e:node k tg ky at' tx sub sub.walk l c=(c+1+sub.ct.size,true):=by
      unfold node;rw[if_neg ?_,walk_good sub _ _ hs (by omega)];rw[alone_ct,ha];simp;omega
    simp only[walk,e,if_true];rw[walk_good nx _ _ hn (by omega)];congr 1;omega
theorem count_good{k:Nat}{tg ky:Str}{at':List (Str×Str)}{tx:Str}{sub:NT}(g:(CT.cons k tg ky at' tx sub.ct .nil).good 1)(s:sub.ct.size≤63):count k tg ky at' tx sub=1+sub.ct.size:=by
  have:=walk_good (.cons k tg ky at' tx .nils .nils sub .nil) 1 0 g (by simp only[ct,CT.size];omega);have e:node k tg ky at' tx sub sub.walk 1 0=(1+sub.ct.size,true):=by
    obtain⟨hl,ha,hs,hn⟩:=g;unfold node;rw[if_neg ?_,walk_good sub _ _ hs (by omega)];rw[alone_ct,ha];simp
  unfold count;rw[e];rfl
end NT
def tagL(n:Nat):Str:=if n%4=0 then[97]else if n%4=1 then[98]else if n%4=2 then[112,49]else[115,105,120,116,101,101,110,98,121,116,101,115,116,97,103,48]
def nmL(n:Nat):Str:=if n=0 then[99,108,97,115,115]else if n=1 then[105,100]else[122,57]
def vlL(n:Nat):Str:=if n%4=0 then[]else if n%4=1 then[120]else if n%4=2 then[97,34,98,92,99]else[32,126]
def wordL(n:Nat):Str:=if n%4=0 then[]else if n%4=1 then[120]else if n%4=2 then[104,105,32,34,121,111,117,92]else[48]
def keyL(n:Nat):Str:=if n%4=0 then[107,48]else if n%4=1 then[107,49]else if n%4=2 then[107,50]else[107,51]
def rootL:Str:=[114,111,111,116]
def attU(n:Nat):Nat→List (Str×Str)
  |0=>[]
  |i+1=>attU n i++(if n/2^i%2=1 then[(nmL i,vlL (n/8+i))]else[])
def keyB(c:Nat)(ks:List Str):Str:=if c%8=3 then(if ks.any (· ==keyL (c/8))=true then[]else keyL (c/8))else[]
def bld:Nat→List Nat→Nat→Nat→List Str→CT×List Nat
  |0,r,_,_,_=>(.nil,r)
  |_+1,[],_,_,_=>(.nil,[])
  |f+1,c::r,lv,n,ks=>
    if c%8=0 then(.nil,r)else if n=16 then bld f r lv n ks
    else if c%8<3 then(.cons 2 [] [] [] (wordL (c/8)) .nil (bld f r lv (n+1) (ks++[[]])).1,(bld f r lv (n+1) (ks++[[]])).2)
    else(.cons 1 (tagL (c/8)) (keyB c ks) (attU (c/2) 3) [] (if lv<5 then bld f r (lv+1) 0 []else(.nil,r)).1 (bld f (if lv<5 then bld f r (lv+1) 0 []else(.nil,r)).2 lv (n+1) (ks++[keyB c ks])).1,
      (bld f (if lv<5 then bld f r (lv+1) 0 []else(.nil,r)).2 lv (n+1) (ks++[keyB c ks])).2)
theorem bld_size:∀(f:Nat)(r:List Nat)(lv n:Nat)(ks:List Str),(bld f r lv n ks).1.size+(bld f r lv n ks).2.length≤r.length
  |0,r,_,_,_=>by simp[bld,CT.size]
  |_+1,[],_,_,_=>by simp[bld,CT.size]
  |f+1,c::r,lv,n,ks=>by
    rw[bld];split
    ·simp[CT.size]
    split
    ·have:=bld_size f r lv n ks;simp only[List.length_cons];omega
    split
    ·have:=bld_size f r lv (n+1) (ks++[[]]);simp only[List.length_cons,CT.size];omega
    ·have h1:(if lv<5 then bld f r (lv+1) 0 []else(.nil,r)).1.size+(if lv<5 then bld f r (lv+1) 0 []else(.nil,r)).2.length≤r.length:=by
       split
       ·exact bld_size f r (lv+1) 0 []
       ·simp[CT.size]
     have h2:=bld_size f (if lv<5 then bld f r (lv+1) 0 []else(.nil,r)).2 lv (n+1) (ks++[keyB c ks]);simp only[List.length_cons,CT.size];omega
theorem bld_len:∀(f:Nat)(r:List Nat)(lv n:Nat)(ks:List Str),n≤16→n+(bld f r lv n ks).1.len≤16
  |0,r,_,_,_,h=>by simpa[bld,CT.len]using h
  |_+1,[],_,_,_,h=>by simpa[bld,CT.len]using h
  |f+1,c::r,lv,n,ks,h=>by
    rw[bld];split
    ·simpa[CT.len]using h
    split
    ·exact bld_len f r lv n ks h
    split
    ·have:=bld_len f r lv (n+1) (ks++[[]]) (by omega);simp only[CT.len];omega
    ·have:=bld_len f (if lv<5 then bld f r (lv+1) 0 []else(.nil,r)).2 lv (n+1) (ks++[keyB c ks]) (by omega);simp only[CT.len];omega
theorem keyL_ok(n:Nat):okN (keyL n)=true:=by unfold keyL;split;decide+kernel;split;decide+kernel;split<;>decide+kernel
theorem keyB_ok(c:Nat)(ks:List Str):(keyB c ks==[]||okN (keyB c ks))=true∧(keyB c ks==[]|| !(ks.any (· ==keyB c ks)))=true:=by
  unfold keyB;split
  ·split
   ·simp
   ·rename_i q;simp only[Bool.not_eq_true]at q;rw[keyL_ok,q];simp
  ·simp
theorem bld_keys:∀(f:Nat)(r:List Nat)(lv n:Nat)(ks:List Str),keysOK ks (bld f r lv n ks).1.keys=true
  |0,r,_,_,_=>rfl
  |_+1,[],_,_,_=>rfl
  |f+1,c::r,lv,n,ks=>by
    rw[bld];split
    ·rfl
    split
    ·exact bld_keys f r lv n ks
    split
    ·simp only[CT.keys];rw[keysOK_cons,bld_keys f r lv (n+1) (ks++[[]])];rfl
    ·simp only[CT.keys];rw[keysOK_cons,bld_keys f _ lv (n+1) (ks++[keyB c ks]),(keyB_ok c ks).2];rfl
theorem tagL_ok(n:Nat):okN (tagL n)=true:=by unfold tagL;split;decide+kernel;split;decide+kernel;split<;>decide+kernel
theorem wordL_ok(n:Nat):okT (wordL n)=true:=by unfold wordL;split;decide+kernel;split;decide+kernel;split<;>decide+kernel
theorem attU_ok:∀n,n<256→attrsOK none (attU n 3)=true∧(attU n 3).length≤8:=by decide+kernel
theorem bld_good:∀(f:Nat)(r:List Nat)(lv n:Nat)(ks:List Str),(∀c∈r,c<256)→lv≤5→n≤16→(bld f r lv n ks).1.good lv∧∀c∈(bld f r lv n ks).2,c<256
  |0,r,_,_,_,h,_,_=>⟨trivial,h⟩
  |_+1,[],_,_,_,h,_,_=>⟨trivial,h⟩
  |f+1,c::r,lv,n,ks,h,hl,hn=>by
    have hr:∀x∈r,x<256:=fun x m=>h x (by simp[m]);rw[bld];split
    ·exact⟨trivial,hr⟩
    split
    ·exact bld_good f r lv n ks hr hl hn
    split
    ·have q:=bld_good f r lv (n+1) (ks++[[]]) hr hl (by omega);refine⟨⟨by omega,?_,trivial,q.1⟩,q.2⟩;simp[CT.aloneC,wordL_ok,CT.len]
    ·have h1:(if lv<5 then bld f r (lv+1) 0 []else(.nil,r)).1.good (lv+1)∧(∀x∈(if lv<5 then bld f r (lv+1) 0 []else(.nil,r)).2,x<256)∧
         (if lv<5 then bld f r (lv+1) 0 []else(.nil,r)).1.len≤16∧keysOK [] (if lv<5 then bld f r (lv+1) 0 []else(.nil,r)).1.keys=true:=by
       split
       ·have:=bld_good f r (lv+1) 0 [] hr (by omega) (by omega);have e:=bld_len f r (lv+1) 0 [] (by omega);exact⟨this.1,this.2,by omega,bld_keys f r (lv+1) 0 []⟩
       ·exact⟨trivial,hr,by simp[CT.len],rfl⟩
     obtain⟨g1,g2,g3,g4⟩:=h1;have q:=bld_good f _ lv (n+1) (ks++[keyB c ks]) g2 hl (by omega);refine⟨⟨by omega,?_,g1,q.1⟩,q.2⟩;have a:=attU_ok (c/2) (by have:=h c (by simp);omega);simp only[CT.aloneC,show¬(1:Nat)=2 by omega,if_false,tagL_ok,(keyB_ok c ks).1,a.1,a.2,g3,g4,decide_true,Bool.and_true,Bool.true_and];rfl
/-- the drawn tree: what it says -/
def drawC(tag key:Nat)(code:List Nat):CT:=.cons 1 (tagL tag) (if key%3=1 then rootL else[]) (attU key 3) [] (bld 20 (code.take 19) 2 0 []).1 .nil
theorem draw_good{tag key:Nat}{code:List Nat}(hk:key<256)(hc:∀c∈code,c<256):(drawC tag key code).good 1∧(bld 20 (code.take 19) 2 0 []).1.size≤19:=by
  have q:=bld_good 20 (code.take 19) 2 0 [] (fun c m=>hc c (List.mem_of_mem_take m)) (by omega) (by omega);have e:=bld_len 20 (code.take 19) 2 0 [] (by omega);have k:=bld_keys 20 (code.take 19) 2 0 [];have s:=bld_size 20 (code.take 19) 2 0 [];have a:=attU_ok key hk;refine⟨⟨by omega,?_,q.1,trivial⟩,?_⟩
  ·have r:((if key%3=1 then rootL else[])==[]||okN (if key%3=1 then rootL else[]))=true:=by split<;>decide+kernel
   simp only[CT.aloneC,show¬(1:Nat)=2 by omega,if_false,tagL_ok,r,a.1,a.2,k,show(bld 20 (code.take 19) 2 0 []).1.len≤16 by omega,decide_true,Bool.and_true,Bool.true_and];rfl
  ·have:(code.take 19).length≤19:=by simp;omega
   omega
theorem rem_u8(a n:Nat)(b:Int)(hb:b=n)(h:n≠0):aP (.ib .rem) [.int .u8 (a:Int),.int .u8 b]=some (.int .u8 ((a%n:Nat):Int)):=by
  subst hb;rw[aP_rem _ _ _ (by omega)];congr 2
theorem rem_i64(a n:Nat)(b:Int)(hb:b=n)(h:n≠0):aP (.ib .rem) [.int .i64 (a:Int),.int .i64 b]=some (.int .i64 ((a%n:Nat):Int)):=by
  subst hb;rw[aP_rem _ _ _ (by omega)];congr 2
theorem quo_u8(a n:Nat)(b:Int)(hb:b=n)(h:n≠0)(ha:a<256):aP (.ib .quo) [.int .u8 (a:Int),.int .u8 b]=some (.int .u8 ((a/n:Nat):Int)):=by
  subst hb;rw[aP_quo _ _ _ (by omega),show(a:Int).tdiv (n:Int)=((a/n:Nat):Int)from rfl];have q:=Nat.div_le_self a n;generalize a/n=m at q⊢;rw[fwrap_u8 _ (by omega) (by omega)]
theorem shr_u8(k:IntKind)(a i:Nat)(b:Int)(hb:b=i)(hi:i≤8)(ha:a<256):aP (.sh false) [.int .u8 (a:Int),.int k b]=some (.int .u8 ((a/2^i:Nat):Int)):=by
  subst hb;rw[aP_shr _ _ _ _ (by omega)];have e:min (i:Int).toNat IntKind.u8.bits=i:=by show min i 8=i;omega
  rw[e];have e2:(a:Int).fdiv ((2^i:Nat):Int)=((a/2^i:Nat):Int):=by
    rw[Int.fdiv_eq_ediv_of_nonneg _ (Int.natCast_nonneg _)];rfl
  rw[e2]
theorem ix_lit(b n:Nat)(k:IntKind){r:Nat}(hr:r<n):aP (.ixs 1) [.slice b 0 n n,.int k (r:Int)]=some (.ptr b r):=by
  rw[aP_ixS _ _ _ _ _ _ _ (by omega) (by omega)];simp
theorem four{p:Nat→Prop}(n:Nat)(h0:p 0)(h1:p 1)(h2:p 2)(h3:p 3):p (n%4):=by
  rcases(by omega:n%4=0∨n%4=1∨n%4=2∨n%4=3)with e|e|e|e<;>rw[e]<;>assumption
theorem tagL_mod(n:Nat):tagL n=tagL (n%4):=by unfold tagL;simp only[Nat.mod_mod]
theorem vlL_mod(n:Nat):vlL n=vlL (n%4):=by unfold vlL;simp only[Nat.mod_mod]
theorem wordL_mod(n:Nat):wordL n=wordL (n%4):=by unfold wordL;simp only[Nat.mod_mod]
theorem keyL_mod(n:Nat):keyL n=keyL (n%4):=by unfold keyL;simp only[Nat.mod_mod]
def tags4:List V:=[.str [97],.str [98],.str [112,49],.str [115,105,120,116,101,101,110,98,121,116,101,115,116,97,103,48]]
def nms3:List V:=[.str [99,108,97,115,115],.str [105,100],.str [122,57]]
def vls4:List V:=[.str [],.str [120],.str [97,34,98,92,99],.str [32,126]]
def words4:List V:=[.str [],.str [120],.str [104,105,32,34,121,111,117,92],.str [48]]
def keys4:List V:=[.str [107,48],.str [107,49],.str [107,50],.str [107,51]]
theorem tags4_at(n:Nat):nth tags4 (n%4)=some (.str (tagL n)):=by
  rw[tagL_mod];exact four (p:=fun r=>nth tags4 r=some (.str (tagL r))) n rfl rfl rfl rfl
theorem vls4_at(n:Nat):nth vls4 (n%4)=some (.str (vlL n)):=by
  rw[vlL_mod];exact four (p:=fun r=>nth vls4 r=some (.str (vlL r))) n rfl rfl rfl rfl
theorem words4_at(n:Nat):nth words4 (n%4)=some (.str (wordL n)):=by
  rw[wordL_mod];exact four (p:=fun r=>nth words4 r=some (.str (wordL r))) n rfl rfl rfl rfl
theorem keys4_at(n:Nat):nth keys4 (n%4)=some (.str (keyL n)):=by
  rw[keyL_mod];exact four (p:=fun r=>nth keys4 r=some (.str (keyL r))) n rfl rfl rfl rfl
theorem nms3_at{n:Nat}(h:n<3):nth nms3 n=some (.str (nmL n)):=by
  rcases(by omega:n=0∨n=1∨n=2)with rfl|rfl|rfl<;>rfl
theorem tag_ok{h:Heap}{n:Nat}(w:WF h):Does go 51 [.int .u8 (n:Int)] h fun u h'=>u=.str (tagL n)∧Fr [] h h':=by
  obtain⟨h1,e_h1⟩:∃h1,h1=halloc h [.str [97],.str [98],.str [112,49],.str [115,105,120,116,101,101,110,98,121,116,101,115,116,97,103,48]]:=⟨_,rfl⟩;have F_h1:Fr [] h h1:=e_h1▸Fr.halloc w _;have o_h1:Own h1 h.next [.str [97],.str [98],.str [112,49],.str [115,105,120,116,101,101,110,98,121,116,101,115,116,97,103,48]]:=e_h1▸Own.new w _;have ld:hload1 h1 h.next (n%4)=some (.str (tagL n)):=by rw[o_h1.ld1];exact tags4_at n
  refine does_fn g51 rfl ?_;simp(maxSteps:=1000000) (disch:=omega) only[fn51,evs,↓reduceIte,Nat.reduceEqDiff,Nat.reduceAdd,Nat.reduceMul,Nat.reduceLeDiff,Nat.reduceLT,Int.reduceNeg,DF,eff,Nat.reduceSub,fwrap_i64,rem_u8 n 4 4 rfl (by omega),←e_h1,ix_lit h.next 4 .u8 (Nat.mod_lt n (show 0<4 by omega)),ld];exact F_h1
theorem _root_.Go.Ev.Gs.low{h:Heap}{B B' e:Nat}{v:V}{cs:List V}(g:Gs h B e v cs)(hb:B'≤B):Gs h B' e v cs:=by
  rcases g with x|⟨b,n,h0,h1,h2,h3,o⟩
  ·exact .inl x
  ·exact .inr ⟨b,n,h0,h1,h2,by omega,o⟩
theorem _root_.Go.Ev.Gs.ge{h:Heap}{B e:Nat}{v:V}{cs:List V}(g:Gs h B e v cs):∀b∈vb v,B≤b:=by
  rcases g with⟨rfl,_⟩|⟨b,n,rfl,_,_,h3,_⟩
  ·simp[vb]
  ·simpa[vb]using h3
theorem _root_.Go.Ev.Gs.lt{h:Heap}{B e:Nat}{v:V}{cs:List V}(g:Gs h B e v cs)(w:WF h):∀b∈vb v,b<h.next:=by
  rcases g with⟨rfl,_⟩|⟨b,n,rfl,_,_,_,o⟩
  ·simp[vb]
  ·simpa[vb]using o.lt w
theorem attC_flat(l:List (Str×Str)):(l.flatMap attC).length=l.length*2:=flat_len attC_len l
theorem attU_len(n i:Nat):(attU n i).length≤i:=by
  induction i with
  |zero=>simp[attU]
  |succ i ih=>rw[attU,List.length_append];split<;>simp<;>omega
theorem attrs_ok{h:Heap}{n:Nat}(w:WF h)(hn:n<256):Does go 52 [.int .u8 (n:Int)] h fun u h'=>Gs h' h.next 2 u ((attU n 3).flatMap attC)∧Fr [] h h':=by
  obtain⟨h1,e_h1⟩:∃h1,h1=halloc h [.str [99,108,97,115,115],.str [105,100],.str [122,57]]:=⟨_,rfl⟩;have F_h1:Fr [] h h1:=e_h1▸Fr.halloc w _;have o_h1:Own h1 h.next [.str [99,108,97,115,115],.str [105,100],.str [122,57]]:=e_h1▸Own.new w _;obtain⟨h2,e_h2⟩:∃h2,h2=halloc h1 [.str [],.str [120],.str [97,34,98,92,99],.str [32,126]]:=⟨_,rfl⟩;have F_h2:Fr [] h1 h2:=e_h2▸Fr.halloc F_h1.wf _;have o_h2:Own h2 h1.next [.str [],.str [120],.str [97,34,98,92,99],.str [32,126]]:=e_h2▸Own.new F_h1.wf _;have n1:h1.next=h.next+1:=hnx e_h1;have n2:h2.next=h1.next+1:=hnx e_h2;refine does_fn g52 rfl ?_;simp(maxSteps:=1000000) (disch:=omega) only[fn52,evs,↓reduceIte,Nat.reduceEqDiff,Nat.reduceAdd,Nat.reduceMul,Nat.reduceLeDiff,Nat.reduceLT,Int.reduceNeg,DF,eff,Nat.reduceSub,fwrap_i64,←e_h1,←e_h2];refine W_loop (fun k env hh=>Fr [] h hh∧h2.next≤hh.next∧Own hh h.next nms3∧Own hh h1.next vls4∧∃(i:Nat)(v:V),env.get 6=some (.int .i64 i)∧env.get 0=some (.int .u8 n)∧env.get 3=some v∧env.get 4=some (.slice h.next 0 3 3)∧env.get 5=some (.slice h1.next 0 4 4)∧
      i≤3∧Gs hh h2.next 2 v ((attU n i).flatMap attC)∧k=3-i) 3 (by omega) ?_ ?_
  ·exact⟨F_h1.then F_h2,Nat.le_refl _,F_h2.get o_h1,o_h2,0,.nils,(by simp[T.get_set]),(by simp[T.get_set]),(by simp[T.get_set]),(by simp[T.get_set]),(by simp[T.get_set]),by omega,.inl ⟨rfl,rfl⟩,rfl⟩
  ·rintro k env hh ⟨F,hnx2,on,ov,i,v,g6,g0,g3,g4,g5,hi,G,rfl⟩;by_cases hlt:i<3
   ·have hlt':(i:Int)<3:=by omega
    have s1:=shr_u8 .i64 n i (i:Int) rfl (by omega) hn;have r1:=rem_u8 (n/2^i) 2 2 rfl (by omega);by_cases c:n/2^i%2=1
    ·have s3:=shr_u8 .u64 n 3 3 rfl (by omega) hn;have ln:hload1 hh h.next i=some (.str (nmL i)):=by rw[on.ld1];exact nms3_at hlt
     have lv:hload1 hh h1.next ((n/2^3+i)%4)=some (.str (vlL (n/8+i))):=by rw[ov.ld1];exact vls4_at (n/8+i)
     have w1:fwrap .u8 (i:Int)=(i:Int):=fwrap_u8 _ (by omega) (by omega);have w2:fwrap .u8 (((n/2^3:Nat):Int)+(i:Int))=((n/2^3+i:Nat):Int):=by
       have:n/2^3<32:=by omega
       rw[fwrap_u8 _ (by omega) (by omega)];omega
     have w3:fwrap .i64 ((n/2^3+i:Nat):Int)=((n/2^3+i:Nat):Int):=fwrap_i64 _ (by omega) (by omega);have r4:=rem_i64 (n/2^3+i) 4 4 rfl (by omega);obtain⟨h3,e_h3⟩:∃h3,h3=halloc hh [.str (nmL i),.str (vlL (n/8+i))]:=⟨_,rfl⟩;have F_h3:Fr [] hh h3:=e_h3▸Fr.halloc F.wf _;have o_h3:Own h3 hh.next [.str (nmL i),.str (vlL (n/8+i))]:=e_h3▸Own.new F.wf _;have hl:=attU_len n i;have e:attU n (i+1)=attU n i++[(nmL i,vlL (n/8+i))]:=by rw[attU,if_pos c]
     simp(maxSteps:=1000000) (disch:=omega) only[evs,↓reduceIte,Nat.reduceEqDiff,Nat.reduceAdd,Nat.reduceMul,Nat.reduceLeDiff,Nat.reduceLT,Int.reduceNeg,DF,eff,Nat.reduceSub,fwrap_i64,g6,g0,g3,g4,g5,hlt',s1,r1,eq_true (show((n/2^i%2:Nat):Int)=1 by omega),s3,w1,w2,w3,r4,ix_lit h.next 3 .i64 hlt,ln,ix_lit h1.next 4 .i64 (Nat.mod_lt (n/2^3+i) (show 0<4 by omega)),lv,←e_h3];refine Gs.append1 (n:=1) F_h3.wf (G.fr F_h3) (Sl.lit o_h3 rfl) (by omega) (by omega) rfl (by have:=F_h3.next;omega) (by rw[attC_flat];omega) ?_;intro v' h4 G4 b4 F4;have F34:Fr (vb v) hh h4:=F_h3.trans F4 F.wf (by simp) (fun x m=>.inl m);have ge:∀x∈vb v,h2.next≤x:=G.ge;have on4:Own h4 h.next nms3:=F34.own _ _ (fun m=>by have:=ge _ m;omega) on;have ov4:Own h4 h1.next vls4:=F34.own _ _ (fun m=>by have:=ge _ m;omega) ov;have ln4:hload1 h4 h.next i=some (.str (nmL i)):=by rw[on4.ld1];exact nms3_at hlt
     have lv4:hload1 h4 h1.next ((n/2^3+i)%4)=some (.str (vlL (n/8+i))):=by rw[ov4.ld1];exact vls4_at (n/8+i)
     simp(maxSteps:=1000000) (disch:=omega) only[evs,↓reduceIte,Nat.reduceEqDiff,Nat.reduceAdd,Nat.reduceMul,Nat.reduceLeDiff,Nat.reduceLT,Int.reduceNeg,DF,eff,Nat.reduceSub,fwrap_i64,g6,g0,g3,g4,g5,hlt',s1,r1,s3,w1,w2,w3,r4,ix_lit h.next 3 .i64 hlt,ln,ln4,ix_lit h1.next 4 .i64 (Nat.mod_lt (n/2^3+i) (show 0<4 by omega)),lv,lv4];have G5:Gs h4 h2.next 2 v' ((attU n (i+1)).flatMap attC):=by
       rw[e,List.flatMap_append];simpa[attC]using G4
     refine(roundQ_norm _ _ _).2 ⟨3-(i+1),by omega,?_,?_,on4,ov4,i+1,v',(by simp[T.get_set]),(by simp[T.get_set,g0]),(by simp[T.get_set]),(by simp[T.get_set,g4]),(by simp[T.get_set,g5]),by omega,G5,rfl⟩
     ·exact F.trans F34 w (by simp) (fun x m=>.inr (by have:=ge x m;omega))
     ·have:=F34.next;omega
    ·have e:attU n (i+1)=attU n i:=by rw[attU,if_neg c,List.append_nil]
     simp(maxSteps:=1000000) (disch:=omega) only[evs,↓reduceIte,Nat.reduceEqDiff,Nat.reduceAdd,Nat.reduceMul,Nat.reduceLeDiff,Nat.reduceLT,Int.reduceNeg,DF,eff,Nat.reduceSub,fwrap_i64,g6,g0,g3,g4,g5,hlt',s1,r1,show¬((n/2^i%2:Nat):Int)=1 by omega];refine(roundQ_norm _ _ _).2 ⟨3-(i+1),by omega,F,hnx2,on,ov,i+1,v,(by simp[T.get_set]),(by simp[T.get_set,g0]),(by simp[T.get_set,g3]),(by simp[T.get_set,g4]),(by simp[T.get_set,g5]),by omega,by rw[e];exact G,rfl⟩
   ·simp(maxSteps:=1000000) (disch:=omega) only[evs,↓reduceIte,Nat.reduceEqDiff,Nat.reduceAdd,Nat.reduceMul,Nat.reduceLeDiff,Nat.reduceLT,Int.reduceNeg,DF,eff,Nat.reduceSub,fwrap_i64,g6,g0,g3,g4,g5,show¬(i:Int)<3 by omega];have:i=3:=by omega
    subst this;exact⟨G.low (by omega),F⟩
namespace NT
def app:NT→NT→NT
  |nil,r=>r
  |cons k tg ky at' tx va vc sub nx,r=>cons k tg ky at' tx va vc sub (nx.app r)
theorem app_cells:∀a r:NT,(a.app r).cells=a.cells++r.cells
  |nil,_=>rfl
  |cons _ _ _ _ _ _ _ _ nx,r=>by simp[app,cells,app_cells nx r]
theorem app_len:∀a r:NT,(a.app r).len=a.len+r.len
  |nil,_=>by simp[app,len]
  |cons _ _ _ _ _ _ _ _ nx,r=>by simp[app,len,app_len nx r];omega
theorem app_keys:∀a r:NT,(a.app r).keys=a.keys++r.keys
  |nil,_=>rfl
  |cons _ _ _ _ _ _ _ _ nx,r=>by simp[app,keys,app_keys nx r]
end NT
namespace CT
def app:CT→CT→CT
  |nil,r=>r
  |cons k tg ky at' tx sub nx,r=>cons k tg ky at' tx sub (nx.app r)
theorem app_nil:∀a:CT,a.app nil=a
  |nil=>rfl
  |cons _ _ _ _ _ _ nx=>by simp[app,app_nil nx]
theorem app_app:∀a b c:CT,(a.app b).app c=a.app (b.app c)
  |nil,_,_=>rfl
  |cons _ _ _ _ _ _ nx,b,c=>by simp[app,app_app nx b c]
end CT
theorem NT.app_ct:∀a r:NT,(a.app r).ct=a.ct.app r.ct
  |.nil,_=>rfl
  |.cons _ _ _ _ _ _ _ _ nx,r=>by simp[app,ct,CT.app,app_ct nx r]
theorem NH.app{h:Heap}:∀{a r:NT},NH h a→NH h r→NH h (a.app r)
  |.nil,_,_,y=>y
  |.cons _ _ _ _ _ _ _ _ _,_,⟨a,b,c,d,e,g,i⟩,y=>⟨a,b,c,d,e,g,NH.app i y⟩
/-- a node more -/
theorem push_ok{hh:Heap}{L k:Nat}{tg ky tx:Str}{at':List (Str×Str)}{v8 va vc:V}{t sub:NT}(w:WF hh)(g:Gs hh L 6 v8 t.cells)(hL:L≤hh.next)(st:Stab (fun x=>L≤x∧x∉vb v8) hh fun h=>NH h t)
    (sx:Stab (fun x=>L≤x∧x∉vb v8) hh fun h=>NH h (.cons k tg ky at' tx va vc sub .nil)) (hlen:t.len≤16) {K:V→Heap→Prop}
    (kk:∀v' h',Gs h' L 6 v' (t.app (.cons k tg ky at' tx va vc sub .nil)).cells→Stab (fun x=>L≤x∧x∉vb v') h' (fun h=>NH h (t.app (.cons k tg ky at' tx va vc sub .nil)))→Fr (vb v8) hh h'→K v' h'):
    OQ (aapp (halloc hh [.int .u8 (k:Int),.str tg,.str ky,va,.str tx,vc]) 6 104 v8 (.slice hh.next 0 1 1)) K:=by
  have F1:=Fr.halloc w [.int .u8 (k:Int),.str tg,.str ky,va,.str tx,vc];have o1:=Own.new w [.int .u8 (k:Int),.str tg,.str ky,va,.str tx,vc];have on:=(sx.now w).ones;simp only[NT.cells,List.append_nil]at on;have cl:=t.cells_len;refine Gs.append1 (n:=1) F1.wf (g.fr F1) (Sl.lit o1 rfl) (by omega) (by omega) on (by have:=F1.next;omega) (by omega) ?_;intro v' h' g' e' f;have F:Fr (vb v8) hh h':=F1.trans f w (by simp) (fun x m=>.inl m);refine kk v' h' (by rw[NT.app_cells];simpa[NT.cells]using g') ?_ F;have S:Stab (fun x=>L≤x∧x∉vb v8) hh fun h=>NH h (t.app (.cons k tg ky at' tx va vc sub .nil)):=(st.and sx).imp fun h q=>NH.app q.1 q.2;have S1:Stab (fun x=>(L≤x∧x∉vb v8)∧x≠hh.next+1) hh fun h=>NH h (t.app (.cons k tg ky at' tx va vc sub .nil)):=S.wk fun b hb p=>⟨p,by omega⟩;refine(S1.fr w F fun x m=>.inl fun p=>p.1.2 m).wk fun b hb p=>⟨p.1.1,?_⟩;rw[e'];have:(halloc hh [.int .u8 (k:Int),.str tg,.str ky,va,.str tx,vc]).next=hh.next+1:=rfl;rw[this];simpa using p.2
def bT:IC:=(.seq (.seq (.ops [⟨none,.p (.ib .lss) [.v 2,.c (.int .i64 5)],some 80⟩]) (.cond (.v 80) (.ops [⟨none,.p .mv [.v 1],none⟩,⟨none,.p (.ib .add) [.v 2,.c (.int .i64 1)],none⟩,⟨none,.cf 53 [.v 0,.l 1,.l 0],none⟩,⟨none,.p (.ext 0) [.l 0],none⟩,⟨none,.p (.ext 1) [.l 1],none⟩,⟨none,.p (.faddr 5) [.v 10],none⟩,⟨none,.st 1 (.l 0) (.l 2),none⟩,⟨none,.p .mv [.l 2],some 1⟩]) (.skip))) (.ops [⟨none,.p .mv [.v 8],none⟩,⟨none,.ld 6 true (.v 10),none⟩,⟨none,.bs [(.int .u8 0),(.str []),(.str []),.nils,(.str []),.nils] [(0,6)] 1 [.l 0],none⟩,⟨none,.ap 6 104 (.l 2) (.l 0),none⟩,⟨none,.p .mv [.l 0],some 8⟩]))
def bK:IC:=(.seq (.seq (.ops [⟨none,.p (.ib .rem) [.v 9,.c (.int .u8 8)],none⟩,⟨none,.p (.ib .eql) [.l 0,.c (.int .u8 3)],some 56⟩]) (.cond (.v 56) (.seq (.ops [⟨none,.bs [(.str [])] [(0,1),(1,1),(2,1),(3,1)] 4 [.c (.str [107,48]),.c (.str [107,49]),.c (.str [107,50]),.c (.str [107,51])],none⟩,⟨none,.p (.ib .quo) [.v 9,.c (.int .u8 8)],none⟩,⟨none,.p (.ib .rem) [.l 0,.c (.int .u8 4)],none⟩,⟨none,.p (.ixs 1) [.l 2,.l 0],none⟩,⟨none,.ld 1 false (.l 0),none⟩,⟨none,.p (.faddr 2) [.v 10],none⟩,⟨none,.st 1 (.l 0) (.l 1),none⟩]) (.seq (.ops [⟨none,.p .mv [.c (.int .i64 0)],some 11⟩]) (.block 2 (.loop (.seq (.seq (.ops [⟨none,.p .lenS [.v 8],none⟩,⟨none,.p (.ib .lss) [.v 11,.l 0],some 67⟩]) (.cond (.v 67) (.skip) (.exit 2))) (.seq (.block 3 (.seq (.dops [⟨none,.p .mv [.v 8],none⟩,⟨none,.p .mv [.v 11],none⟩,⟨none,.p (.ixs 6) [.l 1,.l 0],none⟩,⟨none,.p (.faddr 2) [.l 0],none⟩,⟨none,.ld 1 false (.l 0),none⟩,⟨none,.p (.faddr 2) [.v 10],none⟩,⟨none,.ld 1 false (.l 0),none⟩,⟨none,.p (.sb .eql) [.l 2,.l 0],none⟩] [] [0,0,3,7,15,0,32,127] [0,1,2,3,4,5,6,7] [(4,0,0),(6,0,0)] [(77,7)]) (.cond (.v 77) (.ops [⟨none,.p (.faddr 2) [.v 10],none⟩,⟨none,.st 1 (.l 0) (.c (.str [])),none⟩]) (.skip)))) (.ops [⟨none,.p .mv [.v 11],none⟩,⟨none,.p (.ib .add) [.l 0,.c (.int .i64 1)],none⟩,⟨none,.p .mv [.l 0],some 11⟩]))))))) (.skip))) bT)
def fn53x:IFn:=⟨3,.seq (.ops [⟨none,.p .mv [.c .nils],some 6⟩,⟨none,.p .mv [.c (.int .i64 0)],some 7⟩]) (.seq (.ops [⟨none,.p .mv [.c .nils],some 8⟩]) (.seq (.block 0 (.loop (.seq (.seq (.ops [⟨none,.p .lenS [.v 0],none⟩,⟨none,.p (.ib .lss) [.v 1,.l 0],none⟩,⟨(some (.l 0,true)),.p .mv [.v 1],none⟩,⟨(some (.l 1,true)),.p (.ib .lss) [.l 0,.c (.int .i64 19)],none⟩,⟨none,.p .pick [.l 2,.l 0,.c (.bool false)],some 19⟩]) (.cond (.v 19) (.skip) (.exit 0))) (.block 1 (.seq (.ops [⟨none,.p (.ixs 1) [.v 0,.v 1],none⟩,⟨none,.ld 1 false (.l 0),none⟩,⟨none,.p .mv [.l 0],some 9⟩]) (.seq (.ops [⟨none,.p .mv [.v 1],none⟩,⟨none,.p (.ib .add) [.l 0,.c (.int .i64 1)],none⟩,⟨none,.p .mv [.l 0],some 1⟩]) (.seq (.seq (.ops [⟨none,.p (.ib .rem) [.v 9,.c (.int .u8 8)],none⟩,⟨none,.p (.ib .eql) [.l 0,.c (.int .u8 0)],some 28⟩]) (.cond (.v 28) (.seq (.ops [⟨none,.p .mv [.v 8],some 6⟩,⟨none,.p .mv [.v 1],some 7⟩]) (.ret)) (.skip))) (.seq (.seq (.ops [⟨none,.p .lenS [.v 8],none⟩,⟨none,.p (.ib .eql) [.l 0,.c (.int .i64 16)],some 33⟩]) (.cond (.v 33) (.exit 1) (.skip))) (.seq (.seq (.ops [⟨none,.p (.ib .rem) [.v 9,.c (.int .u8 8)],none⟩,⟨none,.p (.ib .lss) [.l 0,.c (.int .u8 3)],some 36⟩]) (.cond (.v 36) (.seq (.ops [⟨none,.p .mv [.v 8],none⟩,⟨none,.bs [(.str [])] [(0,1),(1,1),(2,1),(3,1)] 4 [.c (.str []),.c (.str [120]),.c (.str [104,105,32,34,121,111,117,92]),.c (.str [48])],none⟩,⟨none,.p (.ib .quo) [.v 9,.c (.int .u8 8)],none⟩,⟨none,.p (.ib .rem) [.l 0,.c (.int .u8 4)],none⟩,⟨none,.p (.ixs 1) [.l 2,.l 0],none⟩,⟨none,.ld 1 false (.l 0),none⟩,⟨none,.p (.build [(.int .u8 0),(.str []),(.str []),.nils,(.str []),.nils] [(0,1),(4,1)]) [.c (.int .u8 2),.l 0],none⟩,⟨none,.bs [(.int .u8 0),(.str []),(.str []),.nils,(.str []),.nils] [(0,6)] 1 [.l 0],none⟩,⟨none,.ap 6 104 (.l 7) (.l 0),none⟩,⟨none,.p .mv [.l 0],some 8⟩]) (.exit 1)) (.skip))) (.seq (.ops [⟨none,.p (.ib .quo) [.v 9,.c (.int .u8 8)],none⟩,⟨none,.cf 51 [.l 0],none⟩,⟨none,.p (.ib .quo) [.v 9,.c (.int .u8 2)],none⟩,⟨none,.cf 52 [.l 0],none⟩,⟨none,.p (.build [(.int .u8 0),(.str []),(.str []),.nils,(.str []),.nils] [(0,1),(1,1),(3,1)]) [.c (.int .u8 1),.l 2,.l 0],none⟩,⟨none,.al [(.int .u8 0),(.str []),(.str []),.nils,(.str []),.nils],some 10⟩,⟨none,.st 6 (.v 10) (.l 0),none⟩]) bK)))))))))) (.seq (.ops [⟨none,.p .mv [.v 8],some 6⟩,⟨none,.p .mv [.v 1],some 7⟩]) (.ret)))),[.t 6,.t 7],[0,1,2,6,7,8,9,10,11,19,28,33,36,56,67,77,80]⟩
theorem g53x:F.get 53=some fn53x:=rfl
set_option maxRecDepth 4000
def u8C(c:Nat):List V:=[.int .u8 (c:Int)]
theorem u8C_len(c:Nat):(u8C c).length=1:=rfl
def rs(code:List Nat)(a:Nat):List Nat:=(code.take 19).drop a
theorem rs_cons{code:List Nat}{a:Nat}(h1:a<code.length)(h2:a<19):∃c,code[a]? =some c∧rs code a=c::rs code (a+1):=by
  have e:(code.take 19)[a]? =some code[a]:=by rw[List.getElem?_take,if_pos h2];exact List.getElem?_eq_getElem h1
  exact⟨code[a],List.getElem?_eq_getElem h1,drop_cons e⟩
theorem rs_nil{code:List Nat}{a:Nat}(h:¬(a<code.length∧a<19)):rs code a=[]:=List.drop_of_length_le (by simp;omega)
theorem bld_nil(f lv n:Nat)(ks:List Str):bld f [] lv n ks=(.nil,[]):=by cases f<;>rfl
section
variable {f c lv n : Nat} {r : List Nat} {ks : List Str}
theorem bld_0(h:c%8=0):bld (f+1) (c::r) lv n ks=(.nil,r):=by rw[bld,if_pos h]
theorem bld_16(h:¬c%8=0)(h1:n=16):bld (f+1) (c::r) lv n ks=bld f r lv n ks:=by rw[bld,if_neg h,if_pos h1]
theorem bld_w(h:¬c%8=0)(h1:¬n=16)(h2:c%8<3):bld (f+1) (c::r) lv n ks=(.cons 2 [] [] [] (wordL (c/8)) .nil (bld f r lv (n+1) (ks++[[]])).1,(bld f r lv (n+1) (ks++[[]])).2):=by rw[bld,if_neg h,if_neg h1,if_pos h2]
theorem bld_e(h:¬c%8=0)(h1:¬n=16)(h2:¬c%8<3):bld (f+1) (c::r) lv n ks=
    (.cons 1 (tagL (c/8)) (keyB c ks) (attU (c/2) 3) [] (if lv<5 then bld f r (lv+1) 0 []else(.nil,r)).1 (bld f (if lv<5 then bld f r (lv+1) 0 []else(.nil,r)).2 lv (n+1) (ks++[keyB c ks])).1,
      (bld f (if lv<5 then bld f r (lv+1) 0 []else(.nil,r)).2 lv (n+1) (ks++[keyB c ks])).2):=by rw[bld,if_neg h,if_neg h1,if_neg h2]
end
/-- codes that may be read, whatever is written to -/
def RO(h:Heap)(v:V)(code:List Nat):Prop:=Stab (fun _=>False) h fun h=>ARecs u8C 1 h v code
theorem RO.fr{h h':Heap}{v:V}{code:List Nat}{X:List Nat}(r:RO h v code)(w:WF h)(f:Fr X h h'):RO h' v code:=Stab.fr r w f fun _ _=>.inl id
/-- what build returns -/
def BR(h h':Heap)(u:V)(p:CT×List Nat)(code:List Nat):Prop:=∃(t:NT)(v':V)(a2:Nat),u=.tup [v',.int .i64 (a2:Int)]∧Gs h' h.next 6 v' t.cells∧Stab (fun x=>h.next≤x) h' (fun h=>NH h t)∧
  t.len≤16∧t.ct=p.1∧p.2=rs code a2∧a2≤19∧Fr [] h h'
/-- what stands when the element is done but for its children -/
structure El(hh:Heap)(env:T V)(L N b:Nat)(v v8:V)(t:NT)(code:List Nat)(a lv:Nat)(tg ky:Str)(at':List (Str×Str))(va:V):Prop where
  w:WF hh
  g0:env.get 0=some v
  g1:env.get 1=some (.int .i64 (a:Int))
  g2:env.get 2=some (.int .i64 (lv:Int))
  g8:env.get 8=some v8
  g10:env.get 10=some (.ptr b 0)
  cd:RO hh v code
  gt:Gs hh L 6 v8 t.cells
  st:Stab (fun x=>L≤x∧x<N∧x∉vb v8) hh fun h=>NH h t
  lt:∀x∈vb v8,x<N
  ln:t.len<16
  LN:L≤N
  Nb:N≤b
  bn:b<hh.next
  ob:Own hh b [.int .u8 1,.str tg,.str ky,va,.str [],.nils]
  ra:Stab (fun x=>N≤x∧x≠b) hh fun h=>Recs attC 2 h va at'
  la:at'.length≤4096
theorem NH.one1{h:Heap}{k:Nat}{tg ky tx:Str}{at':List (Str×Str)}{va vc:V}{sub:NT}(x:NH h (.cons k tg ky at' tx va vc sub .nil)):onesB [.int .u8 (k:Int),.str tg,.str ky,va,.str tx,vc]=true:=by
  simpa[NT.cells]using x.ones
/-- the element comes to the others -/
theorem el_push{hh:Heap}{env:T V}{L N b a lv:Nat}{v v8 vc:V}{t sub:NT}{code:List Nat}{tg ky:Str}{at':List (Str×Str)}{va:V}{K:V→Heap→Prop}
    (w:WF hh) (gt:Gs hh L 6 v8 t.cells) (st:Stab (fun x=>L≤x∧x<N∧x∉vb v8) hh fun h=>NH h t) (lt:∀x∈vb v8,x<N) (ln:t.len<16) (LN:L≤N) (hN:N≤hh.next)
    (ra:Stab (fun x=>N≤x∧x≠b) hh fun h=>Recs attC 2 h va at') (la:at'.length≤4096) (sc:Stab (fun x=>N≤x∧x≠b) hh fun h=>Sl h 6 vc sub.len sub.cells∧NH h sub) (ls:sub.len≤4096)
    (k:∀v' h',Gs h' L 6 v' (t.app (.cons 1 tg ky at' [] va vc sub .nil)).cells→Stab (fun x=>L≤x∧x∉vb v') h' (fun h=>NH h (t.app (.cons 1 tg ky at' [] va vc sub .nil)))→Fr (vb v8) hh h'→K v' h'):
    OQ (aapp (halloc hh [.int .u8 1,.str tg,.str ky,va,.str [],vc]) 6 104 v8 (.slice hh.next 0 1 1)) K:=by
  refine push_ok (k:=1) (tx:=[]) (at':=at') (sub:=sub) w gt (by omega) (st.wk fun x _ p=>⟨p.1,p.2.2⟩) ?_ (by omega) k;refine((ra.and sc).wk (Q:=fun x=>L≤x∧x∉vb v8) fun x _ p=>⟨by omega,fun m=>by have:=lt x m;omega⟩).imp ?_;rintro h ⟨a,c,d⟩;exact⟨by omega,a,la,c,ls,d,trivial⟩
theorem bT_ok{hh:Heap}{env:T V}{L N b a lv:Nat}{v v8 va:V}{t:NT}{code:List Nat}{tg ky:Str}{at':List (Str×Str)}{f:Nat}{Q:Ex→T V→Heap→Prop}(E:El hh env L N b v v8 t code a lv tg ky at' va)(hl:lv≤5)(ha:a≤19)
    (rec:∀{h:Heap},WF h→RO h v code→lv<5→Does go 53 [v,.int .i64 (a:Int),.int .i64 ((lv+1:Nat):Int)] h fun u h'=>BR h h' u (bld f (rs code a) (lv+1) 0 []) code)
    (k:∀env' h' v' t' va' vc' sub a',t'=t.app (.cons 1 tg ky at' [] va' vc' sub .nil)→sub.ct=(if lv<5 then bld f (rs code a) (lv+1) 0 []else(.nil,rs code a)).1→(if lv<5 then bld f (rs code a) (lv+1) 0 []else(.nil,rs code a)).2=rs code a'→a'≤19→
      env'.get 0=some v→env'.get 1=some (.int .i64 (a':Int))→env'.get 2=some (.int .i64 (lv:Int))→env'.get 8=some v'→Gs h' L 6 v' t'.cells→Stab (fun x=>L≤x∧x∉vb v') h' (fun h=>NH h t')→Fr (b::vb v8) hh h'→Q .norm env' h'):
    W go bT env hh Q:=by
  obtain⟨w,g0,g1,g2,g8,g10,cd,gt,st,lt,ln,LN,Nb,bn,ob,ra,la⟩:=E;by_cases c:lv<5
  ·simp only[if_pos c]at k;simp(maxSteps:=1000000) (disch:=omega) only[evs,↓reduceIte,Nat.reduceEqDiff,Nat.reduceAdd,Nat.reduceMul,Nat.reduceLeDiff,Nat.reduceLT,Int.reduceNeg,DF,eff,Nat.reduceSub,fwrap_i64,bT,g0,g1,g2,g8,g10,show(lv:Int)<5 by omega];refine OQ_does (rec w cd c) ?_;rintro _ h1 ⟨sub,v1,a1,rfl,G1,S1,L1,e1,e2,ha1,F1⟩;have ob1:=F1.get ob;have one1:v1.one=true:=G1.one;simp(maxSteps:=1000000) (disch:=omega) only[evs,↓reduceIte,Nat.reduceEqDiff,Nat.reduceAdd,Nat.reduceMul,Nat.reduceLeDiff,Nat.reduceLT,Int.reduceNeg,DF,eff,Nat.reduceSub,fwrap_i64,g0,g1,g2,g8,g10];refine store_step (c':=[.int .u8 1,.str tg,.str ky,va,.str [],v1]) F1.wf ob1 (by rw[cells_one one1];rfl) (by rw[cells_one one1];simp[onesB_cons,onesB_nil,one1]) (by rw[cells_one one1];rfl) ?_;intro h2 o2 F2 n2;have nn:=F1.next;have F02:Fr [b] hh h2:=F1.trans F2 w (by simp) (fun x m=>.inl m);have ld:hload h2 b 0 6=some [.int .u8 1,.str tg,.str ky,va,.str [],v1]:=by rw[o2.ld];rfl
   have bv8:b∉vb v8:=fun m=>by have:=lt b m;omega
   have gt2:Gs h2 L 6 v8 t.cells:=(Stab.gs w gt (P:=fun x=>x∈vb v8) fun x m=>m) [b] h2 (fun x m=>.inl (by simp at m;subst m;exact bv8)) F02;have st2:=st.fr w F02 (by intro x m;rw[List.mem_singleton.1 m];exact .inl fun p=>by omega);have ra2:=ra.fr w F02 (by intro x m;rw[List.mem_singleton.1 m];exact .inl fun p=>p.2 rfl);have Sg:Stab (fun x=>hh.next≤x) h1 fun h=>Sl h 6 v1 sub.len sub.cells:=(Stab.gs F1.wf G1 fun x m=>G1.ge x m).imp fun h q=>q.sl sub.cells_len (by omega);have sc:Stab (fun x=>N≤x∧x≠b) h2 fun h=>Sl h 6 v1 sub.len sub.cells∧NH h sub:=
     ((Sg.and S1).fr F1.wf F2 (by intro x m;rw[List.mem_singleton.1 m];exact .inl fun p=>by omega)).wk fun x _ p=>⟨by omega,by omega⟩
   simp(maxSteps:=1000000) (disch:=omega) only[evs,↓reduceIte,Nat.reduceEqDiff,Nat.reduceAdd,Nat.reduceMul,Nat.reduceLeDiff,Nat.reduceLT,Int.reduceNeg,DF,eff,Nat.reduceSub,fwrap_i64,g0,g1,g2,g8,g10,ld];refine el_push (b:=b) (a:=a) (lv:=lv) (v:=v) (env:=env) (code:=code) (at':=at') F2.wf gt2 st2 lt ln LN (by omega) ra2 la sc (by omega) ?_;intro v' h3 G3 S3 F3;simp(maxSteps:=1000000) (disch:=omega) only[evs,↓reduceIte,Nat.reduceEqDiff,Nat.reduceAdd,Nat.reduceMul,Nat.reduceLeDiff,Nat.reduceLT,Int.reduceNeg,DF,eff,Nat.reduceSub,fwrap_i64,g0,g1,g2,g8,g10];refine k _ _ v' _ va v1 sub a1 rfl e1 e2 ha1 (by simp[T.get_set,g0]) (by simp[T.get_set]) (by simp[T.get_set,g2]) (by simp[T.get_set]) G3 S3 ?_;exact F02.trans F3 w (fun x m=>.inl (by simp at m;simp[m])) (fun x m=>.inl (List.mem_cons_of_mem _ m))
  ·simp only[if_neg c]at k;have ld:hload hh b 0 6=some [.int .u8 1,.str tg,.str ky,va,.str [],.nils]:=by rw[ob.ld];rfl
   simp(maxSteps:=1000000) (disch:=omega) only[evs,↓reduceIte,Nat.reduceEqDiff,Nat.reduceAdd,Nat.reduceMul,Nat.reduceLeDiff,Nat.reduceLT,Int.reduceNeg,DF,eff,Nat.reduceSub,fwrap_i64,bT,g0,g1,g2,g8,g10,show¬(lv:Int)<5 by omega,ld];refine el_push (b:=b) (a:=a) (lv:=lv) (v:=v) (env:=env) (code:=code) (at':=at') (sub:=.nil) w gt st lt ln LN (by omega) ra la (fun _ _ _ _=>⟨⟨rfl,rfl⟩,trivial⟩) (by simp[NT.len]) ?_;intro v' h3 G3 S3 F3;simp(maxSteps:=1000000) (disch:=omega) only[evs,↓reduceIte,Nat.reduceEqDiff,Nat.reduceAdd,Nat.reduceMul,Nat.reduceLeDiff,Nat.reduceLT,Int.reduceNeg,DF,eff,Nat.reduceSub,fwrap_i64,g0,g1,g2,g8,g10];refine k _ _ v' _ va .nils .nil a rfl rfl rfl ha (by simp[T.get_set,g0]) (by simp[T.get_set,g1]) (by simp[T.get_set,g2]) (by simp[T.get_set]) G3 S3 ?_;exact F3.trans (Fr.refl (S:=[]) F3.wf) w (fun x m=>.inl (List.mem_cons_of_mem _ m)) (by simp)
/-- the keys that come ahead strike the key -/
def stk(ks:List Str)(ky:Str):Nat→Str
  |0=>ky
  |i+1=>if ks[i]? =some (stk ks ky i)then[]else stk ks ky i
theorem stk_eq(ks:List Str)(ky:Str)(hk:ky≠[]):∀i,i≤ks.length→stk ks ky i=if(ks.take i).any (· ==ky)=true then[]else ky
  |0,_=>by simp[stk]
  |i+1,hi=>by
    have e:ks[i]? =some ks[i]:=List.getElem?_eq_getElem (by omega);rw[stk,stk_eq ks ky hk i (by omega),List.take_add_one,e,List.any_append];by_cases c:(ks.take i).any (· ==ky)=true
    ·simp[c]
    ·simp only[c];by_cases d:ks[i]=ky
     ·simp[d]
     ·simp[d]
theorem bK_ok{hh:Heap}{env:T V}{L N b a lv c:Nat}{v v8 va:V}{t:NT}{code:List Nat}{tg:Str}{at':List (Str×Str)}{Q:Ex→T V→Heap→Prop}(E:El hh env L N b v v8 t code a lv tg [] at' va)(g9:env.get 9=some (.int .u8 (c:Int)))(hc:c<256)
    (k:∀env' h',El h' env' L N b v v8 t code a lv tg (keyB c t.keys) at' va→Fr [b] hh h'→W go bT env' h' Q):W go bK env hh Q:=by
  have r8:=rem_u8 c 8 8 rfl (by omega);by_cases c3:c%8=3
  ·obtain⟨w,g0,g1,g2,g8,g10,cd,gt,st,lt,ln,LN,Nb,bn,ob,ra,la⟩:=E;have q8:=quo_u8 c 8 8 rfl (by omega) hc;have r4:=rem_u8 (c/8) 4 4 rfl (by omega);obtain⟨h1,e_h1⟩:∃h1,h1=halloc hh [.str [107,48],.str [107,49],.str [107,50],.str [107,51]]:=⟨_,rfl⟩;have F_h1:Fr [] hh h1:=e_h1▸Fr.halloc w _;have o_h1:Own h1 hh.next [.str [107,48],.str [107,49],.str [107,50],.str [107,51]]:=e_h1▸Own.new w _;have ld:hload1 h1 hh.next (c/8%4)=some (.str (keyL (c/8))):=by rw[o_h1.ld1];exact keys4_at (c/8)
   simp(maxSteps:=1000000) (disch:=omega) only[evs,↓reduceIte,Nat.reduceEqDiff,Nat.reduceAdd,Nat.reduceMul,Nat.reduceLeDiff,Nat.reduceLT,Int.reduceNeg,DF,eff,Nat.reduceSub,fwrap_i64,bK,g9,g10,r8,eq_true (show((c%8:Nat):Int)=3 by omega),q8,r4,←e_h1,ix_lit hh.next 4 .u8 (Nat.mod_lt (c/8) (show 0<4 by omega)),ld];refine store_step (c':=[.int .u8 1,.str tg,.str (keyL (c/8)),va,.str [],.nils]) F_h1.wf (F_h1.get ob) rfl rfl rfl ?_;intro h2 o2 F2 n2;have F02:Fr [b] hh h2:=F_h1.trans F2 w (by simp) (fun x m=>.inl m);have bv8:b∉vb v8:=fun m=>by have:=lt b m;omega
   have sg:=Stab.gs w gt (P:=fun x=>x∈vb v8) fun x m=>m;simp(maxSteps:=1000000) (disch:=omega) only[evs,↓reduceIte,Nat.reduceEqDiff,Nat.reduceAdd,Nat.reduceMul,Nat.reduceLeDiff,Nat.reduceLT,Int.reduceNeg,DF,eff,Nat.reduceSub,fwrap_i64,g0,g1,g2,g8,g9,g10];refine W_loop (fun n env hx=>Fr [b] hh hx∧∃i:Nat,env.get 11=some (.int .i64 i)∧env.get 0=some v∧env.get 1=some (.int .i64 (a:Int))∧env.get 2=some (.int .i64 (lv:Int))∧env.get 8=some v8∧env.get 10=some (.ptr b 0)∧
     Own hx b [.int .u8 1,.str tg,.str (stk t.keys (keyL (c/8)) i),va,.str [],.nils]∧i≤t.len∧n=t.len-i) t.len (by omega) ?_ ?_
   ·exact⟨F02,0,(by simp[T.get_set]),(by simp[T.get_set,g0]),(by simp[T.get_set,g1]),(by simp[T.get_set,g2]),(by simp[T.get_set,g8]),(by simp[T.get_set,g10]),o2,by omega,rfl⟩
   ·rintro n env hx ⟨F,i,e11,e0,e1,e2,e8,e10,o,hi,rfl⟩;have G:Gs hx L 6 v8 t.cells:=sg [b] hx (fun x m=>.inl (by simp at m;subst m;exact bv8)) F;have S:Sl hx 6 v8 t.len t.cells:=G.sl t.cells_len (by omega);by_cases hlt:i<t.len
    ·obtain⟨kd,tg',ky',at2,tx,va',vc,sb,nx,p1,p2,p3,p4,p5,_⟩:=t.split i hlt;obtain⟨b',o',x1,x2⟩:=S.ix6 hlt p2;have l2:hload1 hx b' (o'+2)=some (.str ky'):=x2.2.2.1;have lk:hload1 hx b 2=some (.str (stk t.keys (keyL (c/8)) i)):=o.ld1 2;have est:stk t.keys (keyL (c/8)) (i+1)=if ky'=stk t.keys (keyL (c/8)) i then[]else stk t.keys (keyL (c/8)) i:=by rw[stk,p5];simp only[Option.some.injEq]
     cases d:ky'==stk t.keys (keyL (c/8)) i
     ·have ne:¬ky'=stk t.keys (keyL (c/8)) i:=by simpa using d
      rw[if_neg ne]at est;simp(maxSteps:=1000000) (disch:=omega) only[evs,↓reduceIte,Nat.reduceEqDiff,Nat.reduceAdd,Nat.reduceMul,Nat.reduceLeDiff,Nat.reduceLT,Int.reduceNeg,DF,eff,Nat.reduceSub,fwrap_i64,e11,e0,e1,e2,e8,e10,S.len,show(i:Int)<t.len by omega,x1,l2,lk,aP_sbe,d];refine(roundQ_norm _ _ _).2 ⟨t.len-(i+1),by omega,F,i+1,(by simp[T.get_set]),(by simp[T.get_set,e0]),(by simp[T.get_set,e1]),(by simp[T.get_set,e2]),(by simp[T.get_set,e8]),(by simp[T.get_set,e10]),by rw[est];exact o,by omega,rfl⟩
     ·have eq:ky'=stk t.keys (keyL (c/8)) i:=by simpa using d
      rw[if_pos eq]at est;simp(maxSteps:=1000000) (disch:=omega) only[evs,↓reduceIte,Nat.reduceEqDiff,Nat.reduceAdd,Nat.reduceMul,Nat.reduceLeDiff,Nat.reduceLT,Int.reduceNeg,DF,eff,Nat.reduceSub,fwrap_i64,e11,e0,e1,e2,e8,e10,S.len,show(i:Int)<t.len by omega,x1,l2,lk,aP_sbe,d];refine store_step (c':=[.int .u8 1,.str tg,.str [],va,.str [],.nils]) F.wf o rfl rfl rfl ?_;intro h4 o4 F4 n4;simp(maxSteps:=1000000) (disch:=omega) only[evs,↓reduceIte,Nat.reduceEqDiff,Nat.reduceAdd,Nat.reduceMul,Nat.reduceLeDiff,Nat.reduceLT,Int.reduceNeg,DF,eff,Nat.reduceSub,fwrap_i64,e11,e0,e1,e2,e8,e10];refine(roundQ_norm _ _ _).2 ⟨t.len-(i+1),by omega,F.trans F4 w (fun x m=>.inl m) (fun x m=>.inl m),i+1,(by simp[T.get_set]),(by simp[T.get_set,e0]),(by simp[T.get_set,e1]),(by simp[T.get_set,e2]),(by simp[T.get_set,e8]),(by simp[T.get_set,e10]),by rw[est];exact o4,by omega,rfl⟩
    ·simp(maxSteps:=1000000) (disch:=omega) only[evs,↓reduceIte,Nat.reduceEqDiff,Nat.reduceAdd,Nat.reduceMul,Nat.reduceLeDiff,Nat.reduceLT,Int.reduceNeg,DF,eff,Nat.reduceSub,fwrap_i64,e11,e0,e1,e2,e8,e10,S.len,show¬(i:Int)<t.len by omega];have ei:i=t.len:=by omega
     subst ei;have ek:stk t.keys (keyL (c/8)) t.len=keyB c t.keys:=by
       rw[stk_eq _ _ (by unfold keyL;split;simp;split;simp;split<;>simp) _ (by rw[NT.keys_len];omega),List.take_of_length_le (by rw[NT.keys_len];omega),keyB,if_pos c3]
     rw[ek]at o;refine k _ _ ⟨F.wf,(by simp[T.get_set,e0]),(by simp[T.get_set,e1]),(by simp[T.get_set,e2]),(by simp[T.get_set,e8]),(by simp[T.get_set,e10]),cd.fr w F,G,?_,lt,ln,LN,Nb,by have:=F.next;omega,o,?_,la⟩ F
     ·exact st.fr w F (by intro x m;rw[List.mem_singleton.1 m];exact .inl fun p=>by omega)
     ·exact ra.fr w F (by intro x m;rw[List.mem_singleton.1 m];exact .inl fun p=>p.2 rfl)
  ·have ek:keyB c t.keys=[]:=by rw[keyB,if_neg c3]
   simp(maxSteps:=1000000) (disch:=omega) only[evs,↓reduceIte,Nat.reduceEqDiff,Nat.reduceAdd,Nat.reduceMul,Nat.reduceLeDiff,Nat.reduceLT,Int.reduceNeg,DF,eff,Nat.reduceSub,fwrap_i64,bK,g9,E.g10,r8,show¬((c%8:Nat):Int)=3 by omega];refine k _ _ ?_ (Fr.refl E.w);obtain⟨w,g0,g1,g2,g8,g10,cd,gt,st,lt,ln,LN,Nb,bn,ob,ra,la⟩:=E;exact⟨w,(by simp[T.get_set,g0]),(by simp[T.get_set,g1]),(by simp[T.get_set,g2]),(by simp[T.get_set,g8]),(by simp[T.get_set,g10]),cd,gt,st,lt,ln,LN,Nb,bn,by rw[ek];exact ob,ra,la⟩
theorem NT.app_one_len(t:NT)(k:Nat)(tg ky:Str)(at':List (Str×Str))(tx:Str)(va vc:V)(sub:NT):(t.app (.cons k tg ky at' tx va vc sub .nil)).len=t.len+1:=by rw[NT.app_len];rfl
theorem NT.app_one_keys(t:NT)(k:Nat)(tg ky:Str)(at':List (Str×Str))(tx:Str)(va vc:V)(sub:NT):(t.app (.cons k tg ky at' tx va vc sub .nil)).keys=t.keys++[ky]:=by rw[NT.app_keys];rfl
theorem NT.app_one_ct(t:NT)(k:Nat)(tg ky:Str)(at':List (Str×Str))(tx:Str)(va vc:V)(sub:NT)(r:CT):(t.app (.cons k tg ky at' tx va vc sub .nil)).ct.app r=t.ct.app (.cons k tg ky at' tx sub.ct r):=by
  rw[NT.app_ct,CT.app_app];rfl
theorem build_any(m:Nat):∀{h:Heap}{v:V}{code:List Nat}{a lv:Nat}(f:Nat),(rs code a).length≤m→WF h→RO h v code→(∀c∈code,c<256)→code.length<281474976710656→(rs code a).length<f→lv≤5→a≤19→
    Does go 53 [v,.int .i64 (a:Int),.int .i64 (lv:Int)] h fun u h'=>BR h h' u (bld f (rs code a) lv 0 []) code:=by
  induction m using Nat.strongRecOn with
  |_ m ih=>
  intro h v code a lv f hm w cd hc hn hf hl ha;refine does_fn g53x rfl ?_;simp(maxSteps:=1000000) (disch:=omega) only[evs,↓reduceIte,Nat.reduceEqDiff,Nat.reduceAdd,Nat.reduceMul,Nat.reduceLeDiff,Nat.reduceLT,Int.reduceNeg,DF,eff,Nat.reduceSub,fwrap_i64,fn53x];refine W_loop (fun k env hh=>Fr [] h hh∧∃(a1 f1:Nat)(t:NT)(v8:V),env.get 0=some v∧env.get 1=some (.int .i64 (a1:Int))∧env.get 2=some (.int .i64 (lv:Int))∧env.get 8=some v8∧
      Gs hh h.next 6 v8 t.cells∧Stab (fun x=>h.next≤x∧x∉vb v8) hh (fun h=>NH h t)∧t.len≤16∧(rs code a1).length<f1∧(rs code a1).length≤m∧a1≤19∧
      t.ct.app (bld f1 (rs code a1) lv t.len t.keys).1=(bld f (rs code a) lv 0 []).1∧(bld f1 (rs code a1) lv t.len t.keys).2=(bld f (rs code a) lv 0 []).2∧k=(rs code a1).length) (rs code a).length (by have:(rs code a).length≤19:=(by simp[rs];omega);omega) ?_ ?_
  ·exact⟨Fr.refl w,a,f,.nil,.nils,(by simp[T.get_set]),(by simp[T.get_set]),(by simp[T.get_set]),(by simp[T.get_set]),.inl ⟨rfl,rfl⟩,Stab.const trivial,by simp[NT.len],hf,hm,ha,rfl,rfl,rfl⟩
  ·rintro k env hh ⟨F,a1,f1,t,v8,g0,g1,g2,g8,G,S,hlen,hf1,hm1,ha1,e1,e2,rfl⟩;have cd1:=cd.fr w F;have sl:=cd1.now F.wf;have done:bld f1 (rs code a1) lv t.len t.keys=(.nil,rs code a1)→BR h hh (.tup [v8,.int .i64 (a1:Int)]) (bld f (rs code a) lv 0 []) code:=fun e=>by
     rw[e]at e1 e2;exact⟨t,v8,a1,rfl,G,S.wk fun x _ p=>p.1,hlen,by rw[←e1,CT.app_nil],e2.symm,ha1,F⟩
   by_cases c1:a1<code.length
   ·by_cases c2:a1<19
    ·obtain⟨c,q1,q2⟩:=rs_cons c1 c2;have hcc:=hc c (List.mem_of_getElem? q1);obtain⟨bi,oi,x,p1,p2,_,p4⟩:=sl.ix u8C_len .i64 (a1:Int) (by omega) (by omega);rw[Int.toNat_natCast,q1]at p4;cases p4;have ld:hload1 hh bi oi=some (.int .u8 (c:Int)):=p2 0 (by omega);have r8:=rem_u8 c 8 8 rfl (by omega);obtain⟨f2,rfl⟩:∃f2,f1=f2+1:=⟨f1-1,by omega⟩;have lr:(rs code a1).length=(rs code (a1+1)).length+1:=by rw[q2];rfl
     rw[q2]at e1 e2;by_cases d0:c%8=0
     ·simp(maxSteps:=1000000) (disch:=omega) only[evs,↓reduceIte,Nat.reduceEqDiff,Nat.reduceAdd,Nat.reduceMul,Nat.reduceLeDiff,Nat.reduceLT,Int.reduceNeg,DF,eff,Nat.reduceSub,fwrap_i64,g0,g1,g2,g8,sl.len,show(a1:Int)<code.length by omega,show(a1:Int)<19 by omega,p1,ld,r8,eq_true (show((c%8:Nat):Int)=0 by omega)];rw[bld_0 d0]at e1 e2;exact⟨t,v8,a1+1,by simp,G,S.wk fun x _ p=>p.1,hlen,by rw[←e1,CT.app_nil],e2.symm,by omega,F⟩
     by_cases d1:t.len=16
     ·simp(maxSteps:=1000000) (disch:=omega) only[evs,↓reduceIte,Nat.reduceEqDiff,Nat.reduceAdd,Nat.reduceMul,Nat.reduceLeDiff,Nat.reduceLT,Int.reduceNeg,DF,eff,Nat.reduceSub,fwrap_i64,g0,g1,g2,g8,sl.len,show(a1:Int)<code.length by omega,show(a1:Int)<19 by omega,p1,ld,r8,show¬((c%8:Nat):Int)=0 by omega,(G.sl t.cells_len (by omega)).len,eq_true (show(t.len:Int)=16 by omega)];rw[bld_16 d0 d1]at e1 e2;refine(roundQ_norm _ _ _).2 ⟨(rs code (a1+1)).length,by omega,F,a1+1,f2,t,v8,(by simp[T.get_set,g0]),(by simp[T.get_set]),(by simp[T.get_set,g2]),(by simp[T.get_set,g8]),G,S,hlen,by omega,by omega,by omega,e1,e2,rfl⟩
      done
     have q8:=quo_u8 c 8 8 rfl (by omega) hcc;have q2':=quo_u8 c 2 2 rfl (by omega) hcc;by_cases d2:c%8<3
     ·rw[bld_w d0 d1 d2]at e1 e2;have r4:=rem_u8 (c/8) 4 4 rfl (by omega);obtain⟨h1,e_h1⟩:∃h1,h1=halloc hh [.str [],.str [120],.str [104,105,32,34,121,111,117,92],.str [48]]:=⟨_,rfl⟩;have F_h1:Fr [] hh h1:=e_h1▸Fr.halloc F.wf _;have o_h1:Own h1 hh.next [.str [],.str [120],.str [104,105,32,34,121,111,117,92],.str [48]]:=e_h1▸Own.new F.wf _;have lw:hload1 h1 hh.next (c/8%4)=some (.str (wordL (c/8))):=by rw[o_h1.ld1];exact words4_at (c/8)
      have n1:=hnx e_h1;have hnn:=F.next;have vlt:=G.lt F.wf;simp(maxSteps:=1000000) (disch:=omega) only[evs,↓reduceIte,Nat.reduceEqDiff,Nat.reduceAdd,Nat.reduceMul,Nat.reduceLeDiff,Nat.reduceLT,Int.reduceNeg,DF,eff,Nat.reduceSub,fwrap_i64,g0,g1,g2,g8,sl.len,show(a1:Int)<code.length by omega,show(a1:Int)<19 by omega,p1,ld,r8,show¬((c%8:Nat):Int)=0 by omega,(G.sl t.cells_len (by omega)).len,show¬(t.len:Int)=16 by omega,show((c%8:Nat):Int)<3 by omega,q8,r4,←e_h1,ix_lit hh.next 4 .u8 (Nat.mod_lt (c/8) (show 0<4 by omega)),lw];refine push_ok (k:=2) (tg:=[]) (ky:=[]) (tx:=wordL (c/8)) (at':=[]) (sub:=.nil) F_h1.wf (G.fr F_h1) (by omega) (S.fr0 F.wf F_h1) (fun _ _ _ _=>⟨by omega,⟨rfl,rfl⟩,by simp,⟨rfl,rfl⟩,by simp[NT.len],trivial,trivial⟩) (by omega) ?_;intro v' h3 G3 S3 F3;have F13:Fr (vb v8) hh h3:=F_h1.trans F3 F.wf (by simp) (fun x m=>.inl m);have F03:Fr [] h h3:=F.trans F13 w (by simp) (fun x m=>.inr (G.ge x m));simp(maxSteps:=1000000) (disch:=omega) only[evs,↓reduceIte,Nat.reduceEqDiff,Nat.reduceAdd,Nat.reduceMul,Nat.reduceLeDiff,Nat.reduceLT,Int.reduceNeg,DF,eff,Nat.reduceSub,fwrap_i64,g0,g1,g2,g8];refine(roundQ_norm _ _ _).2 ⟨(rs code (a1+1)).length,by omega,F03,a1+1,f2,_,v',(by simp[T.get_set,g0]),(by simp[T.get_set]),(by simp[T.get_set,g2]),(by simp[T.get_set]),G3,S3,by rw[NT.app_one_len];omega,by omega,by omega,by omega,?_,?_,rfl⟩
      ·rw[NT.app_one_len,NT.app_one_keys,NT.app_one_ct];exact e1
      ·rw[NT.app_one_len,NT.app_one_keys];exact e2
     ·rw[bld_e d0 d1 d2]at e1 e2;simp(maxSteps:=1000000) (disch:=omega) only[evs,↓reduceIte,Nat.reduceEqDiff,Nat.reduceAdd,Nat.reduceMul,Nat.reduceLeDiff,Nat.reduceLT,Int.reduceNeg,DF,eff,Nat.reduceSub,fwrap_i64,g0,g1,g2,g8,sl.len,show(a1:Int)<code.length by omega,show(a1:Int)<19 by omega,p1,ld,r8,show¬((c%8:Nat):Int)=0 by omega,(G.sl t.cells_len (by omega)).len,show¬(t.len:Int)=16 by omega,show¬((c%8:Nat):Int)<3 by omega,q8];refine OQ_does (tag_ok F.wf) ?_;rintro _ h1 ⟨rfl,F1⟩;simp(maxSteps:=1000000) (disch:=omega) only[evs,↓reduceIte,Nat.reduceEqDiff,Nat.reduceAdd,Nat.reduceMul,Nat.reduceLeDiff,Nat.reduceLT,Int.reduceNeg,DF,eff,Nat.reduceSub,fwrap_i64,g0,g1,g2,g8,q2'];refine OQ_does (attrs_ok F1.wf (by omega:c/2<256)) ?_;rintro va h2 ⟨Ga,F2⟩;have one2:va.one=true:=Ga.one;obtain⟨h3,e_h3⟩:∃h3,h3=halloc h2 [.int .u8 0,.str [],.str [],.nils,.str [],.nils]:=⟨_,rfl⟩;have F_h3:Fr [] h2 h3:=e_h3▸Fr.halloc F2.wf _;have o_h3:Own h3 h2.next [.int .u8 0,.str [],.str [],.nils,.str [],.nils]:=e_h3▸Own.new F2.wf _;simp(maxSteps:=1000000) (disch:=omega) only[evs,↓reduceIte,Nat.reduceEqDiff,Nat.reduceAdd,Nat.reduceMul,Nat.reduceLeDiff,Nat.reduceLT,Int.reduceNeg,DF,eff,Nat.reduceSub,fwrap_i64,g0,g1,g2,g8,cells_one one2,←e_h3];refine store_step (c':=[.int .u8 1,.str (tagL (c/8)),.str [],va,.str [],.nils]) F_h3.wf o_h3 rfl (by simp only[V.cells,onesB_cons,onesB_nil,one2];rfl) rfl ?_;intro h4 o4 F4 n4;have F12:=F1.then F2;have F23:Fr [] h2 h4:=F_h3.fresh F4 F2.wf (Nat.le_refl _);have F04:Fr [] hh h4:=F12.then F23;have n3:=hnx e_h3;have nn1:=F1.next;have nn2:=F2.next;have hnn:=F.next;have vlt:=G.lt F.wf;have Sa:Stab (fun x=>hh.next≤x∧x≠h2.next) h4 fun h=>Recs attC 2 h va (attU (c/2) 3):=
        (((Stab.gs F2.wf Ga (P:=fun x=>hh.next≤x∧x≠h2.next) fun x m=>⟨by have:=Ga.ge x m;omega,by have:=Ga.lt F2.wf x m;omega⟩).imp fun h q=>Gs.sl q (attC_flat _) (by omega)).fr0 F2.wf F23)
      have EL:El h4 ((((env.set 9 (.int .u8 (c:Int))).set 1 (.int .i64 ((a1:Int)+1))).set 10 (.ptr h2.next 0))) h.next hh.next h2.next v v8 t code (a1+1) lv (tagL (c/8)) [] (attU (c/2) 3) va:=
        ⟨F04.wf,(by simp[T.get_set,g0]),(by simp[T.get_set]),(by simp[T.get_set,g2]),(by simp[T.get_set,g8]),(by simp[T.get_set]),cd1.fr F.wf F04,G.fr F04,(S.wk fun x hx p=>⟨p.1,hx,p.2⟩).fr0 F.wf F04,vlt,by omega,hnn,by omega,by rw[n4];omega,o4,Sa,by have:=attU_len (c/2) 3;omega⟩
      simp(maxSteps:=1000000) (disch:=omega) only[evs,↓reduceIte,Nat.reduceEqDiff,Nat.reduceAdd,Nat.reduceMul,Nat.reduceLeDiff,Nat.reduceLT,Int.reduceNeg,DF,eff,Nat.reduceSub,fwrap_i64,g0,g1,g2,g8];refine bK_ok (hh:=h4) (c:=c) (a:=a1+1) (lv:=lv) ⟨F04.wf,(by simp[T.get_set,g0]),(by simp[T.get_set]),(by simp[T.get_set,g2]),(by simp[T.get_set,g8]),(by simp[T.get_set]),EL.cd,EL.gt,EL.st,EL.lt,EL.ln,EL.LN,EL.Nb,EL.bn,EL.ob,EL.ra,EL.la⟩ (by simp[T.get_set]) hcc ?_;intro env5 h5 E5 F5;refine bT_ok (f:=f2) E5 hl (by omega) (fun{h} w0 c0 l0=>ih (rs code (a1+1)).length (by omega) f2 (Nat.le_refl _) w0 c0 hc hn (by omega) (by omega) (by omega)) ?_;intro env6 h6 v' t' va' vc' sub a' et es er ha' k0 k1 k2 k8 G6 S6 F6;have lr':=bld_size f2 (rs code (a1+1)) (lv+1) 0 [];have la':(rs code a').length≤(rs code (a1+1)).length:=by
        rw[←er];split
        ·omega
        ·exact Nat.le_refl _
      have F56:Fr (h2.next::vb v8) h4 h6:=F5.trans F6 F04.wf (fun x m=>.inl (by simp at m;simp[m])) (fun x m=>.inl m);have F06:Fr [] h h6:=(F.then F04).trans F56 w (by simp) (fun x m=>.inr (by
        rcases List.mem_cons.1 m with rfl|m
        ·omega
        ·exact G.ge x m))
      simp(maxSteps:=1000000) (disch:=omega) only[evs,↓reduceIte,Nat.reduceEqDiff,Nat.reduceAdd,Nat.reduceMul,Nat.reduceLeDiff,Nat.reduceLT,Int.reduceNeg,DF,eff,Nat.reduceSub,fwrap_i64,k0,k1,k2,k8];rw[←es,er]at e1;rw[er]at e2;subst et;refine(roundQ_norm _ _ _).2 ⟨(rs code a').length,by omega,F06,a',f2,_,v',k0,k1,k2,k8,G6,S6,by rw[NT.app_one_len];omega,by omega,by omega,ha',?_,?_,rfl⟩
      ·rw[NT.app_one_len,NT.app_one_keys,NT.app_one_ct];exact e1
      ·rw[NT.app_one_len,NT.app_one_keys];exact e2
    ·simp(maxSteps:=1000000) (disch:=omega) only[evs,↓reduceIte,Nat.reduceEqDiff,Nat.reduceAdd,Nat.reduceMul,Nat.reduceLeDiff,Nat.reduceLT,Int.reduceNeg,DF,eff,Nat.reduceSub,fwrap_i64,g0,g1,g2,g8,sl.len,show(a1:Int)<code.length by omega,show¬(a1:Int)<19 by omega];exact done (by rw[rs_nil (by omega),bld_nil])
   ·simp(maxSteps:=1000000) (disch:=omega) only[evs,↓reduceIte,Nat.reduceEqDiff,Nat.reduceAdd,Nat.reduceMul,Nat.reduceLeDiff,Nat.reduceLT,Int.reduceNeg,DF,eff,Nat.reduceSub,fwrap_i64,g0,g1,g2,g8,sl.len,show¬(a1:Int)<code.length by omega];exact done (by rw[rs_nil (by omega),bld_nil])
def eqFn(N:Nat):IFn:=⟨2,.seq (.ops [⟨none,.bx (.v 0),some 2⟩,⟨none,.bx (.v 1),some 3⟩,⟨none,.p .mv [.c (.bool false)],some 4⟩]) (.seq (.ops [⟨none,.p (.faddr 0) [.v 2],none⟩,⟨none,.ld 1 false (.l 0),none⟩,⟨none,.p (.faddr 0) [.v 3],none⟩,⟨none,.ld 1 false (.l 0),none⟩,⟨none,.p (.ib .eql) [.l 2,.l 0],none⟩,⟨(some (.l 0,true)),.p (.faddr 1) [.v 2],none⟩,⟨(some (.l 1,true)),.ld 1 false (.l 0),none⟩,⟨(some (.l 2,true)),.p (.faddr 1) [.v 3],none⟩,⟨(some (.l 3,true)),.ld 1 false (.l 0),none⟩,⟨(some (.l 4,true)),.p (.sb .eql) [.l 2,.l 0],none⟩,⟨none,.p .pick [.l 5,.l 0,.c (.bool false)],none⟩,⟨(some (.l 0,true)),.p (.faddr 2) [.v 2],none⟩,⟨(some (.l 1,true)),.ld 1 false (.l 0),none⟩,⟨(some (.l 2,true)),.p (.faddr 2) [.v 3],none⟩,⟨(some (.l 3,true)),.ld 1 false (.l 0),none⟩,⟨(some (.l 4,true)),.p (.sb .eql) [.l 2,.l 0],none⟩,⟨none,.p .pick [.l 5,.l 0,.c (.bool false)],none⟩,⟨(some (.l 0,true)),.p (.faddr 4) [.v 2],none⟩,⟨(some (.l 1,true)),.ld 1 false (.l 0),none⟩,⟨(some (.l 2,true)),.p (.faddr 4) [.v 3],none⟩,⟨(some (.l 3,true)),.ld 1 false (.l 0),none⟩,⟨(some (.l 4,true)),.p (.sb .eql) [.l 2,.l 0],none⟩,⟨none,.p .pick [.l 5,.l 0,.c (.bool false)],none⟩,⟨(some (.l 0,true)),.p (.faddr 3) [.v 2],none⟩,⟨(some (.l 1,true)),.ld 1 false (.l 0),none⟩,⟨(some (.l 2,true)),.p (.faddr 3) [.v 3],none⟩,⟨(some (.l 3,true)),.ld 1 false (.l 0),none⟩,⟨(some (.l 4,true)),.cf 54 [.l 2,.l 0],none⟩,⟨none,.p .pick [.l 5,.l 0,.c (.bool false)],none⟩,⟨(some (.l 0,true)),.p (.faddr 5) [.v 2],none⟩,⟨(some (.l 1,true)),.ld 1 false (.l 0),none⟩,⟨(some (.l 2,true)),.p (.faddr 5) [.v 3],none⟩,⟨(some (.l 3,true)),.ld 1 false (.l 0),none⟩,⟨(some (.l 4,true)),.cf 55 [.l 2,.l 0,.c (.func (.func N) [] [])],none⟩,⟨none,.p .pick [.l 5,.l 0,.c (.bool false)],none⟩,⟨none,.p .mv [.l 0],some 4⟩]) (.ret)),[.t 4],[0,1,2,3,4]⟩
theorem g81e:F.get 81=some (eqFn 81):=rfl
theorem g33e:F.get 33=some (eqFn 33):=rfl
end Go.Ev.Lay
