/- An evaluator of the program, and contracts over it: TxB to TxL0. -/
import Derived.Test.YthhhghfnhbocnaaGreatDoorP09
set_option linter.unusedSimpArgs false
set_option linter.unusedVariables false
set_option linter.constructorNameAsVariable false
set_option linter.unnecessarySimpa false
namespace Go.Ev.Lay
set_option maxRecDepth 4000
theorem shr_u64(a i:Nat)(b:Int)(k:IntKind)(hb:b=i)(hi:i≤64)(ha:a<18446744073709551616):aP (.sh false) [.int .u64 (a:Int),.int k b]=some (.int .u64 ((a/2^i:Nat):Int)):=by
  subst hb;rw[aP_shr _ _ _ _ (by omega)];have e:min (i:Int).toNat IntKind.u64.bits=i:=by show min i 64=i;omega
  rw[e];have e2:(a:Int).fdiv ((2^i:Nat):Int)=((a/2^i:Nat):Int):=by
    rw[Int.fdiv_eq_ediv_of_nonneg _ (Int.natCast_nonneg _)];rfl
  rw[e2]
def l8T:List UInt8:=[0,1,2,2,3,3,3,3,4,4,4,4,4,4,4,4,5,5,5,5,5,5,5,5,5,5,5,5,5,5,5,5,6,6,6,6,6,6,6,6,6,6,6,6,6,6,6,6,6,6,6,6,6,6,6,6,6,6,6,6,6,6,6,6,7,7,7,7,7,7,7,7,7,7,7,7,7,7,7,7,7,7,7,7,7,7,7,7,7,7,7,7,7,7,7,7,7,7,7,7,7,7,7,7,7,7,7,7,7,7,7,7,7,7,7,7,7,7,7,7,7,7,7,7,7,7,7,7,8,8,8,8,8,8,8,8,8,8,8,8,8,8,8,8,8,8,8,8,8,8,8,8,8,8,8,8,8,8,8,8,8,8,8,8,8,8,8,8,8,8,8,8,8,8,8,8,8,8,8,8,8,8,8,8,8,8,8,8,8,8,8,8,8,8,8,8,8,8,8,8,8,8,8,8,8,8,8,8,8,8,8,8,8,8,8,8,8,8,8,8,8,8,8,8,8,8,8,8,8,8,8,8,8,8,8,8,8,8,8,8,8,8,8,8,8,8,8,8,8,8,8,8,8,8,8,8]
def lg8(x:Nat):Nat:=if x=0 then 0 else x.log2+1
theorem l8_at:∀x,x<256→(l8T[x]?).map UInt8.toNat=some (lg8 x):=by decide+kernel
theorem lg8_ok:∀x,x<256→x<2^lg8 x∧(0<x→0<lg8 x∧2^(lg8 x-1)≤x)∧lg8 x≤8:=by decide+kernel
theorem ix_l8{x:Nat}(h:x<256)(k:IntKind):aP .ixstr [.str [0,1,2,2,3,3,3,3,4,4,4,4,4,4,4,4,5,5,5,5,5,5,5,5,5,5,5,5,5,5,5,5,6,6,6,6,6,6,6,6,6,6,6,6,6,6,6,6,6,6,6,6,6,6,6,6,6,6,6,6,6,6,6,6,7,7,7,7,7,7,7,7,7,7,7,7,7,7,7,7,7,7,7,7,7,7,7,7,7,7,7,7,7,7,7,7,7,7,7,7,7,7,7,7,7,7,7,7,7,7,7,7,7,7,7,7,7,7,7,7,7,7,7,7,7,7,7,7,8,8,8,8,8,8,8,8,8,8,8,8,8,8,8,8,8,8,8,8,8,8,8,8,8,8,8,8,8,8,8,8,8,8,8,8,8,8,8,8,8,8,8,8,8,8,8,8,8,8,8,8,8,8,8,8,8,8,8,8,8,8,8,8,8,8,8,8,8,8,8,8,8,8,8,8,8,8,8,8,8,8,8,8,8,8,8,8,8,8,8,8,8,8,8,8,8,8,8,8,8,8,8,8,8,8,8,8,8,8,8,8,8,8,8,8,8,8,8,8,8,8,8,8,8,8,8,8],.int k (x:Int)]=some (.int .u8 ((lg8 x:Nat):Int)):=by
  have e:=l8_at x h;show(l8T[x]?).map (fun b=>V.int .u8 (b.toNat:Int))=_;cases q:l8T[x]? with
  |none=>rw[q]at e;cases e
  |some b=>rw[q]at e;simp only[Option.map_some,Option.some.injEq]at e⊢;rw[e]
/-- the length of a number in bits -/
def BL(u L:Nat):Prop:=u<2^L∧(0<u→0<L∧2^(L-1)≤u)
theorem BL.up{u x n k:Nat}(hx:x=u/2^n)(h:x<2^k)(h2:0<x→0<k∧2^(k-1)≤x)(hp:0<u→0<x):BL u (n+k):=by
  subst hx;have pn:0<2^n:=Nat.two_pow_pos n;refine⟨?_,fun hu=>?_⟩
  ·rw[Nat.pow_add];have:=Nat.div_lt_iff_lt_mul pn|>.1 h;rw[Nat.mul_comm]at this;exact this
  ·obtain⟨h3,h4⟩:=h2 (hp hu);refine⟨by omega,?_⟩;rw[show n+k-1=n+(k-1) by omega,Nat.pow_add,Nat.mul_comm];exact Nat.le_trans (Nat.mul_le_mul_right _ h4) (Nat.div_mul_le_self u (2^n))
theorem len64_ok{h:Heap}{u:Nat}(hu:u<18446744073709551616):Does go 107 [.int .u64 (u:Int)] h fun v h'=>∃L:Nat,v=.int .i64 (L:Int)∧BL u L∧L≤64∧h=h':=by
  by_cases c1:4294967296≤u
  ·by_cases c2:65536≤u/2^32
   ·by_cases c3:256≤u/2^32/2^16
    ·have x0:u=u/2^0:=by simp
     have hx:(((u/2^32)/2^16)/2^8)<256:=by omega
     have w8:fwrap .u8 (((((u/2^32)/2^16)/2^8):Nat):Int)=(((((u/2^32)/2^16)/2^8):Nat):Int):=fwrap_u8 _ (by omega) (by omega);have l8:=lg8_ok _ hx;refine does_fn g107 rfl ?_;simp(maxSteps:=1000000) (disch:=omega) only[fn107,evs,↓reduceIte,Nat.reduceEqDiff,Nat.reduceAdd,Nat.reduceMul,Nat.reduceLeDiff,Nat.reduceLT,Int.reduceNeg,DF,eff,Nat.reduceSub,fwrap_i64,show(4294967296:Int)≤(u:Nat) by omega,shr_u64 (u) 32 32 .u64 rfl (by omega) (by omega),show(65536:Int)≤((u/2^32):Nat) by omega,shr_u64 ((u/2^32)) 16 16 .u64 rfl (by omega) (by omega),show(256:Int)≤(((u/2^32)/2^16):Nat) by omega,shr_u64 (((u/2^32)/2^16)) 8 8 .u64 rfl (by omega) (by omega),w8,ix_l8 hx .u8];refine⟨56+lg8 (((u/2^32)/2^16)/2^8),by simp,BL.up (x:=(((u/2^32)/2^16)/2^8)) (by simp[Nat.div_div_eq_div_mul]) l8.1 l8.2.1 (by omega),by omega⟩
    ·have x0:u=u/2^0:=by simp
     have hx:((u/2^32)/2^16)<256:=by omega
     have w8:fwrap .u8 ((((u/2^32)/2^16):Nat):Int)=((((u/2^32)/2^16):Nat):Int):=fwrap_u8 _ (by omega) (by omega);have l8:=lg8_ok _ hx;refine does_fn g107 rfl ?_;simp(maxSteps:=1000000) (disch:=omega) only[fn107,evs,↓reduceIte,Nat.reduceEqDiff,Nat.reduceAdd,Nat.reduceMul,Nat.reduceLeDiff,Nat.reduceLT,Int.reduceNeg,DF,eff,Nat.reduceSub,fwrap_i64,show(4294967296:Int)≤(u:Nat) by omega,shr_u64 (u) 32 32 .u64 rfl (by omega) (by omega),show(65536:Int)≤((u/2^32):Nat) by omega,shr_u64 ((u/2^32)) 16 16 .u64 rfl (by omega) (by omega),show¬(256:Int)≤(((u/2^32)/2^16):Nat) by omega,w8,ix_l8 hx .u8];refine⟨48+lg8 ((u/2^32)/2^16),by simp,BL.up (x:=((u/2^32)/2^16)) (by simp[Nat.div_div_eq_div_mul]) l8.1 l8.2.1 (by omega),by omega⟩
   ·by_cases c3:256≤u/2^32
    ·have x0:u=u/2^0:=by simp
     have hx:((u/2^32)/2^8)<256:=by omega
     have w8:fwrap .u8 ((((u/2^32)/2^8):Nat):Int)=((((u/2^32)/2^8):Nat):Int):=fwrap_u8 _ (by omega) (by omega);have l8:=lg8_ok _ hx;refine does_fn g107 rfl ?_;simp(maxSteps:=1000000) (disch:=omega) only[fn107,evs,↓reduceIte,Nat.reduceEqDiff,Nat.reduceAdd,Nat.reduceMul,Nat.reduceLeDiff,Nat.reduceLT,Int.reduceNeg,DF,eff,Nat.reduceSub,fwrap_i64,show(4294967296:Int)≤(u:Nat) by omega,shr_u64 (u) 32 32 .u64 rfl (by omega) (by omega),show¬(65536:Int)≤((u/2^32):Nat) by omega,show(256:Int)≤((u/2^32):Nat) by omega,shr_u64 ((u/2^32)) 8 8 .u64 rfl (by omega) (by omega),w8,ix_l8 hx .u8];refine⟨40+lg8 ((u/2^32)/2^8),by simp,BL.up (x:=((u/2^32)/2^8)) (by simp[Nat.div_div_eq_div_mul]) l8.1 l8.2.1 (by omega),by omega⟩
    ·have x0:u=u/2^0:=by simp
     have hx:(u/2^32)<256:=by omega
     have w8:fwrap .u8 (((u/2^32):Nat):Int)=(((u/2^32):Nat):Int):=fwrap_u8 _ (by omega) (by omega);have l8:=lg8_ok _ hx;refine does_fn g107 rfl ?_;simp(maxSteps:=1000000) (disch:=omega) only[fn107,evs,↓reduceIte,Nat.reduceEqDiff,Nat.reduceAdd,Nat.reduceMul,Nat.reduceLeDiff,Nat.reduceLT,Int.reduceNeg,DF,eff,Nat.reduceSub,fwrap_i64,show(4294967296:Int)≤(u:Nat) by omega,shr_u64 (u) 32 32 .u64 rfl (by omega) (by omega),show¬(65536:Int)≤((u/2^32):Nat) by omega,show¬(256:Int)≤((u/2^32):Nat) by omega,w8,ix_l8 hx .u8];refine⟨32+lg8 (u/2^32),by simp,BL.up (x:=(u/2^32)) (by simp[Nat.div_div_eq_div_mul]) l8.1 l8.2.1 (by omega),by omega⟩
  ·by_cases c2:65536≤u
   ·by_cases c3:256≤u/2^16
    ·have x0:u=u/2^0:=by simp
     have hx:((u/2^16)/2^8)<256:=by omega
     have w8:fwrap .u8 ((((u/2^16)/2^8):Nat):Int)=((((u/2^16)/2^8):Nat):Int):=fwrap_u8 _ (by omega) (by omega);have l8:=lg8_ok _ hx;refine does_fn g107 rfl ?_;simp(maxSteps:=1000000) (disch:=omega) only[fn107,evs,↓reduceIte,Nat.reduceEqDiff,Nat.reduceAdd,Nat.reduceMul,Nat.reduceLeDiff,Nat.reduceLT,Int.reduceNeg,DF,eff,Nat.reduceSub,fwrap_i64,show¬(4294967296:Int)≤(u:Nat) by omega,show(65536:Int)≤(u:Nat) by omega,shr_u64 (u) 16 16 .u64 rfl (by omega) (by omega),show(256:Int)≤((u/2^16):Nat) by omega,shr_u64 ((u/2^16)) 8 8 .u64 rfl (by omega) (by omega),w8,ix_l8 hx .u8];refine⟨24+lg8 ((u/2^16)/2^8),by simp,BL.up (x:=((u/2^16)/2^8)) (by simp[Nat.div_div_eq_div_mul]) l8.1 l8.2.1 (by omega),by omega⟩
    ·have x0:u=u/2^0:=by simp
     have hx:(u/2^16)<256:=by omega
     have w8:fwrap .u8 (((u/2^16):Nat):Int)=(((u/2^16):Nat):Int):=fwrap_u8 _ (by omega) (by omega);have l8:=lg8_ok _ hx;refine does_fn g107 rfl ?_;simp(maxSteps:=1000000) (disch:=omega) only[fn107,evs,↓reduceIte,Nat.reduceEqDiff,Nat.reduceAdd,Nat.reduceMul,Nat.reduceLeDiff,Nat.reduceLT,Int.reduceNeg,DF,eff,Nat.reduceSub,fwrap_i64,show¬(4294967296:Int)≤(u:Nat) by omega,show(65536:Int)≤(u:Nat) by omega,shr_u64 (u) 16 16 .u64 rfl (by omega) (by omega),show¬(256:Int)≤((u/2^16):Nat) by omega,w8,ix_l8 hx .u8];refine⟨16+lg8 (u/2^16),by simp,BL.up (x:=(u/2^16)) (by simp[Nat.div_div_eq_div_mul]) l8.1 l8.2.1 (by omega),by omega⟩
   ·by_cases c3:256≤u
    ·have x0:u=u/2^0:=by simp
     have hx:(u/2^8)<256:=by omega
     have w8:fwrap .u8 (((u/2^8):Nat):Int)=(((u/2^8):Nat):Int):=fwrap_u8 _ (by omega) (by omega);have l8:=lg8_ok _ hx;refine does_fn g107 rfl ?_;simp(maxSteps:=1000000) (disch:=omega) only[fn107,evs,↓reduceIte,Nat.reduceEqDiff,Nat.reduceAdd,Nat.reduceMul,Nat.reduceLeDiff,Nat.reduceLT,Int.reduceNeg,DF,eff,Nat.reduceSub,fwrap_i64,show¬(4294967296:Int)≤(u:Nat) by omega,show¬(65536:Int)≤(u:Nat) by omega,show(256:Int)≤(u:Nat) by omega,shr_u64 (u) 8 8 .u64 rfl (by omega) (by omega),w8,ix_l8 hx .u8];refine⟨8+lg8 (u/2^8),by simp,BL.up (x:=(u/2^8)) (by simp[Nat.div_div_eq_div_mul]) l8.1 l8.2.1 (by omega),by omega⟩
    ·have x0:u=u/2^0:=by simp
     have hx:u<256:=by omega
     have w8:fwrap .u8 ((u:Nat):Int)=((u:Nat):Int):=fwrap_u8 _ (by omega) (by omega);have l8:=lg8_ok _ hx;refine does_fn g107 rfl ?_;simp(maxSteps:=1000000) (disch:=omega) only[fn107,evs,↓reduceIte,Nat.reduceEqDiff,Nat.reduceAdd,Nat.reduceMul,Nat.reduceLeDiff,Nat.reduceLT,Int.reduceNeg,DF,eff,Nat.reduceSub,fwrap_i64,show¬(4294967296:Int)≤(u:Nat) by omega,show¬(65536:Int)≤(u:Nat) by omega,show¬(256:Int)≤(u:Nat) by omega,w8,ix_l8 hx .u8];refine⟨0+lg8 u,by simp,BL.up (x:=u) (by simp[Nat.div_div_eq_div_mul]) l8.1 l8.2.1 (by omega),by omega⟩
theorem log_ok{h:Heap}{L:Nat}(hL:L≤64):Does go 106 [.int .i64 (L:Int)] h fun v h'=>v=.int .i64 ((L*78913/262144:Nat):Int)∧h=h':=by
  have e:aP (.sh false) [.int .i64 ((L:Int) *78913),.int .u64 18]=some (.int .i64 ((L*78913/262144:Nat):Int)):=by
    rw[aP_shr _ _ _ _ (by omega)];have e1:min (18:Int).toNat IntKind.i64.bits=18:=rfl;rw[e1,show((L:Int) *78913)=((L*78913:Nat):Int) by omega,Int.fdiv_eq_ediv_of_nonneg _ (by decide)];rfl
  refine does_fn g106 rfl ?_;simp(maxSteps:=1000000) (disch:=omega) only[fn106,evs,↓reduceIte,Nat.reduceEqDiff,Nat.reduceAdd,Nat.reduceMul,Nat.reduceLeDiff,Nat.reduceLT,Int.reduceNeg,DF,eff,Nat.reduceSub,fwrap_i64,e]
theorem log_facts:∀L,L≤64→L*78913/262144<20∧2^L≤10^(L*78913/262144+1)∧(0<L→0<L*78913/262144→10^(L*78913/262144-1)≤2^(L-1)):=by decide+kernel
/-- a number has n digits -/
def ND(u n:Nat):Prop:=u<10^n∧10^(n-1)≤u∧0<n∧n≤20
theorem tab10_at:∀x,x<20→tab10[x]? =some (.int .u64 ((10^x:Nat):Int)):=by
  intro x hx;rcases(by omega:x=0∨x=1∨x=2∨x=3∨x=4∨x=5∨x=6∨x=7∨x=8∨x=9∨x=10∨x=11∨x=12∨x=13∨x=14∨x=15∨x=16∨x=17∨x=18∨x=19)with rfl|rfl|rfl|rfl|rfl|rfl|rfl|rfl|rfl|rfl|rfl|rfl|rfl|rfl|rfl|rfl|rfl|rfl|rfl|rfl<;>rfl
theorem digits_ok{h:Heap}{u:Nat}(T:Tb h)(hu:u<18446744073709551616)(h1:0<u):Does go 75 [.int .u64 (u:Int)] h fun v h'=>∃n:Nat,v=.int .i64 (n:Int)∧ND u n∧h=h':=by
  have o:Own h 0 tab10:=Pl.own T;refine does_fn g75 rfl ?_;simp(maxSteps:=1000000) (disch:=omega) only[fn75,evs,↓reduceIte,Nat.reduceEqDiff,Nat.reduceAdd,Nat.reduceMul,Nat.reduceLeDiff,Nat.reduceLT,Int.reduceNeg,DF,eff,Nat.reduceSub,fwrap_i64];refine OQ_does (len64_ok hu) ?_;rintro _ _ ⟨L,rfl,⟨b1,b2⟩,hL,rfl⟩;simp(maxSteps:=1000000) (disch:=omega) only[evs,↓reduceIte,Nat.reduceEqDiff,Nat.reduceAdd,Nat.reduceMul,Nat.reduceLeDiff,Nat.reduceLT,Int.reduceNeg,DF,eff,Nat.reduceSub,fwrap_i64];refine OQ_does (log_ok hL) ?_;rintro _ _ ⟨rfl,rfl⟩;obtain⟨f1,f2,f3⟩:=log_facts L hL;obtain⟨b3,b4⟩:=b2 h1;generalize L*78913/262144=x at f1 f2 f3;have ix:aP (.ixa 20 1) [.ptr 0 0,.int .i64 (x:Int)]=some (.ptr 0 x):=by rw[aP_ixa _ _ _ _ _ _ (by omega) (by omega)];simp
  have ld:hload1 h 0 x=some (.int .u64 ((10^x:Nat):Int)):=by rw[o.ld1,nth_eq];exact tab10_at x f1
  by_cases c:10^x≤u
  ·simp(maxSteps:=1000000) (disch:=omega) only[evs,↓reduceIte,Nat.reduceEqDiff,Nat.reduceAdd,Nat.reduceMul,Nat.reduceLeDiff,Nat.reduceLT,Int.reduceNeg,DF,eff,Nat.reduceSub,fwrap_i64,evO_g,ix,ld,show((10^x:Nat):Int)≤(u:Int) by omega];refine OQ_does (?_:Does go 108 [.bool true] h fun v h'=>v=.int .i64 1∧h=h') ?_
   ·refine does_fn g108 rfl ?_;simp(maxSteps:=1000000) (disch:=omega) only[fn108,evs,↓reduceIte,Nat.reduceEqDiff,Nat.reduceAdd,Nat.reduceMul,Nat.reduceLeDiff,Nat.reduceLT,Int.reduceNeg,DF,eff,Nat.reduceSub,fwrap_i64]
   rintro _ _ ⟨rfl,rfl⟩;simp(maxSteps:=1000000) (disch:=omega) only[evs,↓reduceIte,Nat.reduceEqDiff,Nat.reduceAdd,Nat.reduceMul,Nat.reduceLeDiff,Nat.reduceLT,Int.reduceNeg,DF,eff,Nat.reduceSub,fwrap_i64];exact⟨x+1,by simp,⟨Nat.lt_of_lt_of_le b1 f2,by simpa using c,by omega,by omega⟩⟩
  ·simp(maxSteps:=1000000) (disch:=omega) only[evs,↓reduceIte,Nat.reduceEqDiff,Nat.reduceAdd,Nat.reduceMul,Nat.reduceLeDiff,Nat.reduceLT,Int.reduceNeg,DF,eff,Nat.reduceSub,fwrap_i64,evO_g,ix,ld,show¬((10^x:Nat):Int)≤(u:Int) by omega];refine OQ_does (?_:Does go 108 [.bool false] h fun v h'=>v=.int .i64 0∧h=h') ?_
   ·refine does_fn g108 rfl ?_;simp(maxSteps:=1000000) (disch:=omega) only[fn108,evs,↓reduceIte,Nat.reduceEqDiff,Nat.reduceAdd,Nat.reduceMul,Nat.reduceLeDiff,Nat.reduceLT,Int.reduceNeg,DF,eff,Nat.reduceSub,fwrap_i64]
   rintro _ _ ⟨rfl,rfl⟩;simp(maxSteps:=1000000) (disch:=omega) only[evs,↓reduceIte,Nat.reduceEqDiff,Nat.reduceAdd,Nat.reduceMul,Nat.reduceLeDiff,Nat.reduceLT,Int.reduceNeg,DF,eff,Nat.reduceSub,fwrap_i64];have x0:0<x:=by
     rcases Nat.eq_zero_or_pos x with z|z
     ·subst z;simp at c;omega
     ·exact z
   exact⟨x,by simp,⟨by omega,Nat.le_trans (f3 b3 x0) b4,x0,by omega⟩⟩
def smT:List UInt8:=[48,48,48,49,48,50,48,51,48,52,48,53,48,54,48,55,48,56,48,57,49,48,49,49,49,50,49,51,49,52,49,53,49,54,49,55,49,56,49,57,50,48,50,49,50,50,50,51,50,52,50,53,50,54,50,55,50,56,50,57,51,48,51,49,51,50,51,51,51,52,51,53,51,54,51,55,51,56,51,57,52,48,52,49,52,50,52,51,52,52,52,53,52,54,52,55,52,56,52,57,53,48,53,49,53,50,53,51,53,52,53,53,53,54,53,55,53,56,53,57,54,48,54,49,54,50,54,51,54,52,54,53,54,54,54,55,54,56,54,57,55,48,55,49,55,50,55,51,55,52,55,53,55,54,55,55,55,56,55,57,56,48,56,49,56,50,56,51,56,52,56,53,56,54,56,55,56,56,56,57,57,48,57,49,57,50,57,51,57,52,57,53,57,54,57,55,57,56,57,57]
def pr(pa pb:Int)(px:Nat):IC:=(.dops [⟨none,.p .mv [.v 0],none⟩,⟨none,.p .mv [.v 4],none⟩,⟨none,.p (.ib .sub) [.l 0,.c (.int .i64 pa)],none⟩,⟨none,.p .mv [.v 0],none⟩,⟨none,.p .mv [.v 4],none⟩,⟨none,.p (.ib .sub) [.l 0,.c (.int .i64 pb)],none⟩,⟨none,.p .mv [.v px],none⟩,⟨none,.p (.ib .add) [.l 0,.c (.int .u32 1)],none⟩,⟨none,.p .ixstr [.c (.str smT),.l 0],none⟩,⟨none,.p .mv [.v px],none⟩,⟨none,.p .ixstr [.c (.str smT),.l 0],none⟩,⟨none,.p (.ixs 1) [.l 10,.l 8],none⟩,⟨none,.st 1 (.l 0) (.l 3),none⟩,⟨none,.p (.ixs 1) [.l 9,.l 7],none⟩,⟨none,.st 1 (.l 0) (.l 3),none⟩] [] [0,0,2,0,0,16,0,64,192,0,512,455,2503,8191,16383] [0,1,2,10,11,12,3,4,5,6,7,8,9,13,14] [] [])
def fb1:IC:=(.seq (.ops [⟨none,.p (.ib .gtr) [.v 4,.c (.int .i64 0)],some 161⟩]) (.cond (.v 161) (.ops [⟨none,.p (.ib .add) [.c (.int .u32 48),.v 12],none⟩,⟨none,.p (.conv .u8) [.l 0],none⟩,⟨none,.p (.ixs 1) [.v 0,.c (.int .i64 0)],none⟩,⟨none,.st 1 (.l 0) (.l 1),none⟩]) (.skip)))
def fb2:IC:=(.seq (.seq (.ops [⟨none,.p (.ib .geq) [.v 4,.c (.int .i64 2)],some 139⟩]) (.cond (.v 139) (.seq (.ops [⟨none,.p (.ib .rem) [.v 12,.c (.int .u32 100)],none⟩,⟨none,.p (.ib .mul) [.l 0,.c (.int .u32 2)],none⟩,⟨none,.p .mv [.l 0],some 16⟩]) (.seq (.ops [⟨none,.p .mv [.v 12],none⟩,⟨none,.p (.ib .quo) [.l 0,.c (.int .u32 100)],none⟩,⟨none,.p .mv [.l 0],some 12⟩]) (.seq (pr 1 2 16) (.ops [⟨none,.p .mv [.v 4],none⟩,⟨none,.p (.ib .sub) [.l 0,.c (.int .i64 2)],none⟩,⟨none,.p .mv [.l 0],some 4⟩])))) (.skip))) fb1)
def fb4:IC:=(.seq (.ops [⟨none,.p (.conv .u32) [.v 1],none⟩,⟨none,.p .mv [.l 0],some 12⟩]) (.seq (.seq (.ops [⟨none,.p (.ib .geq) [.v 4,.c (.int .i64 4)],some 99⟩]) (.cond (.v 99) (.seq (.ops [⟨none,.p (.ib .rem) [.v 12,.c (.int .u32 10000)],none⟩,⟨none,.p .mv [.l 0],some 13⟩]) (.seq (.ops [⟨none,.p .mv [.v 12],none⟩,⟨none,.p (.ib .quo) [.l 0,.c (.int .u32 10000)],none⟩,⟨none,.p .mv [.l 0],some 12⟩]) (.seq (.ops [⟨none,.p (.ib .quo) [.v 13,.c (.int .u32 100)],none⟩,⟨none,.p (.ib .mul) [.l 0,.c (.int .u32 2)],none⟩,⟨none,.p (.ib .rem) [.v 13,.c (.int .u32 100)],none⟩,⟨none,.p (.ib .mul) [.l 0,.c (.int .u32 2)],none⟩,⟨none,.p .mv [.l 2],some 14⟩,⟨none,.p .mv [.l 0],some 15⟩]) (.seq (pr 1 2 15) (.seq (pr 3 4 14) (.ops [⟨none,.p .mv [.v 4],none⟩,⟨none,.p (.ib .sub) [.l 0,.c (.int .i64 4)],none⟩,⟨none,.p .mv [.l 0],some 4⟩])))))) (.skip))) fb2))
def fn76x:IFn:=⟨2,.seq (.ops [⟨none,.p .lenS [.v 0],none⟩,⟨none,.p .mv [.l 0],some 4⟩]) (.seq (.block 0 (.loop (.seq (.seq (.ops [⟨none,.p (.ib .geq) [.v 4,.c (.int .i64 8)],some 20⟩]) (.cond (.v 20) (.skip) (.exit 0))) (.block 1 (.seq (.ops [⟨none,.p (.ib .rem) [.v 1,.c (.int .u64 100000000)],none⟩,⟨none,.p (.conv .u32) [.l 0],none⟩,⟨none,.p .mv [.l 0],some 5⟩]) (.seq (.ops [⟨none,.p .mv [.v 1],none⟩,⟨none,.p (.ib .quo) [.l 0,.c (.int .u64 100000000)],none⟩,⟨none,.p .mv [.l 0],some 1⟩]) (.seq (.ops [⟨none,.p (.ib .quo) [.v 5,.c (.int .u32 10000)],none⟩,⟨none,.p (.ib .rem) [.v 5,.c (.int .u32 10000)],none⟩,⟨none,.p .mv [.l 1],some 6⟩,⟨none,.p .mv [.l 0],some 7⟩]) (.seq (.ops [⟨none,.p (.ib .quo) [.v 7,.c (.int .u32 100)],none⟩,⟨none,.p (.ib .mul) [.l 0,.c (.int .u32 2)],none⟩,⟨none,.p (.ib .rem) [.v 7,.c (.int .u32 100)],none⟩,⟨none,.p (.ib .mul) [.l 0,.c (.int .u32 2)],none⟩,⟨none,.p .mv [.l 2],some 8⟩,⟨none,.p .mv [.l 0],some 9⟩]) (.seq (.ops [⟨none,.p (.ib .quo) [.v 6,.c (.int .u32 100)],none⟩,⟨none,.p (.ib .mul) [.l 0,.c (.int .u32 2)],none⟩,⟨none,.p (.ib .rem) [.v 6,.c (.int .u32 100)],none⟩,⟨none,.p (.ib .mul) [.l 0,.c (.int .u32 2)],none⟩,⟨none,.p .mv [.l 2],some 10⟩,⟨none,.p .mv [.l 0],some 11⟩]) (.seq (pr 1 2 9) (.seq (pr 3 4 8) (.seq (pr 5 6 11) (.seq (pr 7 8 10) (.ops [⟨none,.p .mv [.v 4],none⟩,⟨none,.p (.ib .sub) [.l 0,.c (.int .i64 8)],none⟩,⟨none,.p .mv [.l 0],some 4⟩])))))))))))))) fb4),[],[0,1,4,5,6,7,8,9,10,11,12,13,14,15,16,20,99,139,161]⟩
theorem g76x:F.get 76=some fn76x:=rfl
set_option maxRecDepth 4000
def c8(b:UInt8):V:=.int .u8 (b.toNat:Int)
def lowD:Nat→Nat→Str
  |0,_=>[]
  |n+1,u=>lowD n (u/10)++[UInt8.ofNat (48+u%10)]
theorem lowD_len:∀n u:Nat,(lowD n u).length=n
  |0,_=>rfl
  |n+1,u=>by rw[lowD,List.length_append,lowD_len n];rfl
theorem lowD_add(a:Nat):∀b u:Nat,lowD (a+b) u=lowD a (u/10^b)++lowD b u
  |0,u=>by simp[lowD]
  |b+1,u=>by
    rw[←Nat.add_assoc,lowD,lowD_add a b,lowD,Nat.div_div_eq_div_mul,Nat.pow_succ,Nat.mul_comm 10,List.append_assoc]
theorem lowD_mod:∀n u:Nat,lowD n (u%10^n)=lowD n u
  |0,_=>rfl
  |n+1,u=>by
    rw[lowD,lowD,←lowD_mod n (u/10),←lowD_mod n (u%10^(n+1)/10)];have e1:u%10^(n+1)/10%10^n=u/10%10^n:=by
      rw[Nat.pow_succ,Nat.mul_comm,Nat.mod_mul_right_div_self,Nat.mod_mod]
    have e2:u%10^(n+1)%10=u%10:=by rw[Nat.pow_succ,Nat.mul_comm,Nat.mod_mul_right_mod]
    rw[e1,e2]
theorem dec_low:∀(n u:Nat),u<10^n→10^(n-1)≤u∨n=1→0<n→dec u=lowD n u
  |0,_,_,_,h=>by omega
  |1,u,h,_,_=>by
    have:u<10:=by simpa using h
    rw[dec_lt this,lowD,lowD,Nat.mod_eq_of_lt this];rfl
  |n+2,u,h1,h2,_=>by
    have h2':10^(n+1)≤u:=by
      rcases h2 with h|h
      ·exact h
      ·omega
    have h10:10≤u:=by
      have:10^1≤10^(n+1):=Nat.pow_le_pow_right (by omega) (by omega);omega
    rw[dec_ge (by omega),lowD,dec_low (n+1) (u/10) ?_ (.inl ?_) (by omega)]
    ·rw[Nat.pow_succ]at h1;omega
    ·show 10^n≤u/10;rw[Nat.pow_succ]at h2';omega
theorem pair_low{p:Nat}(h:p<100):lowD 2 p=[UInt8.ofNat (48+p/10),UInt8.ofNat (48+p%10)]:=by
  simp only[lowD,List.nil_append,List.cons_append];rw[Nat.mod_eq_of_lt (show p/10<10 by omega)]
theorem smT_at:∀p,p<100→smT[2*p]? =some (UInt8.ofNat (48+p/10))∧smT[2*p+1]? =some (UInt8.ofNat (48+p%10)):=by decide+kernel
theorem ix_sm{p:Nat}(h:p<100)(k:IntKind):aP .ixstr [.str smT,.int k ((2*p:Nat):Int)]=some (c8 (UInt8.ofNat (48+p/10))):=by
  show(smT[2*p]?).map _=_;rw[(smT_at p h).1];rfl
theorem ix_sm1{p:Nat}(h:p<100)(k:IntKind):aP .ixstr [.str smT,.int k ((2*p+1:Nat):Int)]=some (c8 (UInt8.ofNat (48+p%10))):=by
  show(smT[2*p+1]?).map _=_;rw[(smT_at p h).2];rfl
/-- behind place m the digits stand -/
def DS(C:List V)(o m nd:Nat)(acc:Str):Prop:=acc.length+m=nd∧o+nd≤C.length∧(C.drop (o+m)).take acc.length=acc.map c8
theorem DS.set2{C:List V}{o m nd:Nat}{acc:Str}{a b:UInt8}(d:DS C o (m+2) nd acc):DS ((C.set (o+m+1) (c8 b)).set (o+m) (c8 a)) o m nd ([a,b]++acc):=by
  obtain⟨h1,h2,h3⟩:=d;refine⟨by simp;omega,by simpa using h2,?_⟩;have e1:((C.set (o+m+1) (c8 b)).set (o+m) (c8 a)).drop (o+m)=c8 a::c8 b::C.drop (o+(m+2)):=by
    rw[List.set_eq_take_append_cons_drop,if_pos (by simp;omega),List.drop_append_of_le_length (by simp;omega),List.drop_of_length_le (by simp;omega),List.nil_append];congr 1;rw[List.set_eq_take_append_cons_drop,if_pos (by omega),List.drop_append_of_le_length (by simp;omega),List.drop_of_length_le (by simp;omega),List.nil_append];congr 1
  rw[e1];simp only[List.cons_append,List.nil_append,List.length_cons,List.take_succ_cons,List.map_cons,h3]
theorem DS.set1{C:List V}{o m nd:Nat}{acc:Str}{b:UInt8}(d:DS C o (m+1) nd acc):DS (C.set (o+m) (c8 b)) o m nd (b::acc):=by
  obtain⟨h1,h2,h3⟩:=d;refine⟨by simp;omega,by simpa using h2,?_⟩;rw[List.set_eq_take_append_cons_drop,if_pos (by omega),List.drop_append_of_le_length (by simp;omega),List.drop_of_length_le (by simp;omega),List.nil_append];simp only[List.length_cons,List.take_succ_cons,List.map_cons];rw[←h3];rfl
theorem pr_ok{h:Heap}{env:T V}{b o N cap m nd p px:Nat}{t:Nat}{C:List V}{acc:Str}{Q:Ex→T V→Heap→Prop}(w:WF h)(oC:Own h b C)(d:DS C o (m-2*t) nd acc)(hm:2*t+2≤m)(hmN:m≤N)(hN:N≤24)
    (g0:env.get 0=some (.slice b o N cap)) (g4:env.get 4=some (.int .i64 (m:Int))) (gx:env.get px=some (.int .u32 ((2*p:Nat):Int))) (hp:p<100)
    (k:∀h' C',Own h' b C'→C'.length=C.length→DS C' o (m-2*(t+1)) nd (lowD 2 p++acc)→Fr [b] h h'→Q .norm env h'):W go (pr (2*t+1:Nat) (2*t+2:Nat) px) env h Q:=by
  have w1:fwrap .u32 (((2*p:Nat):Int)+1)=((2*p+1:Nat):Int):=by rw[fwrap_u32 _ (by omega) (by omega)];omega
  have i1:aP (.ixs 1) [.slice b o N cap,.int .i64 ((m:Int)-((2*t+1:Nat):Int))]=some (.ptr b (o+(m-2*(t+1))+1)):=by
    rw[aP_ixS _ _ _ _ _ _ _ (by omega) (by omega)];congr 2;omega
  have i2:aP (.ixs 1) [.slice b o N cap,.int .i64 ((m:Int)-((2*t+2:Nat):Int))]=some (.ptr b (o+(m-2*(t+1)))):=by
    rw[aP_ixS _ _ _ _ _ _ _ (by omega) (by omega)];congr 2;omega
  have d':DS C o (m-2*(t+1)+2) nd acc:=by rw[show m-2*(t+1)+2=m-2*t by omega];exact d
  have hl:=d.2.1;have hl1:=d.1;simp(maxSteps:=1000000) (disch:=omega) only[evs,↓reduceIte,Nat.reduceEqDiff,Nat.reduceAdd,Nat.reduceMul,Nat.reduceLeDiff,Nat.reduceLT,Int.reduceNeg,DF,eff,Nat.reduceSub,fwrap_i64,pr,g0,g4,gx,w1,ix_sm hp .u32,ix_sm1 hp .u32,i1,i2];refine store_step (c':=C.set (o+(m-2*(t+1))+1) (c8 (UInt8.ofNat (48+p%10)))) w oC rfl rfl (updO_set1 _ _ _ (by omega)) ?_;intro h2 o2 F2 n2;simp(maxSteps:=1000000) (disch:=omega) only[evs,↓reduceIte,Nat.reduceEqDiff,Nat.reduceAdd,Nat.reduceMul,Nat.reduceLeDiff,Nat.reduceLT,Int.reduceNeg,DF,eff,Nat.reduceSub,fwrap_i64,pr,g0,g4,gx,w1,ix_sm hp .u32,ix_sm1 hp .u32,i1,i2];refine store_step (c':=(C.set (o+(m-2*(t+1))+1) (c8 (UInt8.ofNat (48+p%10)))).set (o+(m-2*(t+1))) (c8 (UInt8.ofNat (48+p/10)))) F2.wf o2 rfl rfl (updO_set1 _ _ _ (by simp;omega)) ?_;intro h3 o3 F3 n3;simp(maxSteps:=1000000) (disch:=omega) only[evs,↓reduceIte,Nat.reduceEqDiff,Nat.reduceAdd,Nat.reduceMul,Nat.reduceLeDiff,Nat.reduceLT,Int.reduceNeg,DF,eff,Nat.reduceSub,fwrap_i64,pr,g0,g4,gx,w1,ix_sm hp .u32,ix_sm1 hp .u32,i1,i2];refine k h3 _ o3 (by simp) ?_ (F2.trans F3 w (fun x m=>.inl m) (fun x m=>.inl m));rw[pair_low hp];exact d'.set2
theorem rem_u32(a n:Nat)(b:Int)(hb:b=n)(h:n≠0):aP (.ib .rem) [.int .u32 (a:Int),.int .u32 b]=some (.int .u32 ((a%n:Nat):Int)):=by
  subst hb;rw[aP_rem _ _ _ (by omega)];congr 2
theorem quo_u32(a n:Nat)(b:Int)(hb:b=n)(h:n≠0)(ha:a<4294967296):aP (.ib .quo) [.int .u32 (a:Int),.int .u32 b]=some (.int .u32 ((a/n:Nat):Int)):=by
  subst hb;rw[aP_quo _ _ _ (by omega),show(a:Int).tdiv (n:Int)=((a/n:Nat):Int)from rfl];have q:=Nat.div_le_self a n;generalize a/n=m at q⊢;rw[fwrap_u32 _ (by omega) (by omega)]
theorem dbl_u32{p:Nat}(h:p<100):fwrap .u32 ((p:Int) *2)=((2*p:Nat):Int):=by rw[fwrap_u32 _ (by omega) (by omega)];omega
theorem low4(z:Nat):lowD 4 z=lowD 2 (z%10000/100)++lowD 2 (z%10000%100):=by
  rw[←lowD_mod 4 z,show(10^4:Nat)=10000 from rfl,lowD_add 2 2,show(10^2:Nat)=100 from rfl,←lowD_mod 2 (z%10000),show(10^2:Nat)=100 from rfl]
theorem low8(z:Nat):lowD 8 z=lowD 2 (z%100000000/10000/100)++(lowD 2 (z%100000000/10000%100)++(lowD 2 (z%100000000%10000/100)++lowD 2 (z%100000000%10000%100))):=by
  rw[←lowD_mod 8 z,show(10^8:Nat)=100000000 from rfl,lowD_add 4 4,show(10^4:Nat)=10000 from rfl,low4,low4,Nat.mod_eq_of_lt (show z%100000000/10000<10000 by omega),List.append_assoc]
/-- what the rounds keep -/
structure FB(h0 hh:Heap)(env:T V)(b o N cap m nd u x:Nat)(C0:List V)(C:List V):Prop where
  F:Fr [b] h0 hh
  oC:Own hh b C
  l:C.length=C0.length
  d:DS C o m nd (lowD (nd-m) u)
  g0:env.get 0=some (.slice b o N cap)
  g4:env.get 4=some (.int .i64 (m:Int))
  xe:x=u/10^(nd-m)
  hm:m≤nd
  hN:nd=N
  h20:nd≤20
  ux:x<10^m
theorem FB.acc{nd m u x j:Nat}(hx:x=u/10^(nd-m))(hm:m≤nd)(hj:j≤m):lowD j x++lowD (nd-m) u=lowD (nd-(m-j)) u:=by
  rw[show nd-(m-j)=j+(nd-m) by omega,lowD_add,←hx]
theorem FB.div{nd m u x j:Nat}(hx:x=u/10^(nd-m))(hm:m≤nd)(hj:j≤m):x/10^j=u/10^(nd-(m-j)):=by
  rw[hx,Nat.div_div_eq_div_mul,←Nat.pow_add];congr 2;omega
theorem FB.lt{x m j:Nat}(h:x<10^m)(hj:j≤m):x/10^j<10^(m-j):=by
  rw[Nat.div_lt_iff_lt_mul (Nat.pow_pos (by omega)),←Nat.pow_add,show m-j+j=m by omega];exact h
section
variable {h0 hh : Heap} {env : T V} {b o N cap m nd u x : Nat} {C0 C : List V} {Q : Ex → T V → Heap → Prop}
/-- how it ends -/
def FQ(h0:Heap)(b o nd u:Nat)(C0:List V)(Q:Ex→T V→Heap→Prop):Prop:=∀env' h' C',Fr [b] h0 h'→Own h' b C'→C'.length=C0.length→(C'.drop o).take nd=(lowD nd u).map c8→Q .norm env' h'
theorem fb1_ok(w0:WF h0)(f:FB h0 hh env b o N cap m nd u x C0 C)(g12:env.get 12=some (.int .u32 (x:Int)))(m2:m<2)(k:FQ h0 b o nd u C0 Q):W go fb1 env hh Q:=by
  obtain⟨F,oC,l,d,g0,g4,ex,hm,hN,h20,ux⟩:=f;rcases(by omega:m=0∨m=1)with rfl|rfl
  ·simp(maxSteps:=1000000) (disch:=omega) only[evs,↓reduceIte,Nat.reduceEqDiff,Nat.reduceAdd,Nat.reduceMul,Nat.reduceLeDiff,Nat.reduceLT,Int.reduceNeg,DF,eff,Nat.reduceSub,fwrap_i64,fb1,g4,show¬(0:Int)<((0:Nat):Int) by omega];have:=d.2.2;rw[Nat.sub_zero,lowD_len,Nat.add_zero]at this;exact k _ _ C F oC l this
  ·have hx:x<10:=by simpa using ux
   have w1:fwrap .u32 (48+(x:Int))=((48+x:Nat):Int):=by rw[fwrap_u32 _ (by omega) (by omega)];omega
   have w2:fwrap .u8 ((48+x:Nat):Int)=((48+x:Nat):Int):=fwrap_u8 _ (by omega) (by omega);have ix:aP (.ixs 1) [.slice b o N cap,.int .i64 0]=some (.ptr b o):=by rw[aP_ixS _ _ _ _ _ _ _ (by omega) (by omega)];rfl
   have e8:V.int .u8 ((48+x:Nat):Int)=c8 (UInt8.ofNat (48+x)):=by unfold c8;congr 1;simp;omega
   have dl:=d.2.1;simp(maxSteps:=1000000) (disch:=omega) only[evs,↓reduceIte,Nat.reduceEqDiff,Nat.reduceAdd,Nat.reduceMul,Nat.reduceLeDiff,Nat.reduceLT,Int.reduceNeg,DF,eff,Nat.reduceSub,fwrap_i64,fb1,g4,g12,g0,show(0:Int)<((1:Nat):Int) by omega,w1,w2,ix,e8];refine store_step (c':=C.set o (c8 (UInt8.ofNat (48+x)))) F.wf oC rfl rfl (updO_set1 _ _ _ (by omega)) ?_;intro h2 o2 F2 n2;simp(maxSteps:=1000000) (disch:=omega) only[evs,↓reduceIte,Nat.reduceEqDiff,Nat.reduceAdd,Nat.reduceMul,Nat.reduceLeDiff,Nat.reduceLT,Int.reduceNeg,DF,eff,Nat.reduceSub,fwrap_i64];have d1:DS (C.set (o+0) (c8 (UInt8.ofNat (48+x)))) o 0 nd (UInt8.ofNat (48+x)::lowD (nd-1) u):=DS.set1 d;have e:UInt8.ofNat (48+x)::lowD (nd-1) u=lowD nd u:=by
     have:=FB.acc (j:=1) ex hm (by omega);rw[Nat.sub_self,Nat.sub_zero]at this;rw[←this,lowD,lowD,Nat.mod_eq_of_lt hx];rfl
   rw[e]at d1;have d2:=d1.2.2;rw[lowD_len,Nat.add_zero]at d2;exact k _ _ _ (F.trans F2 w0 (fun y q=>.inl q) (fun y q=>.inl q)) o2 (by simpa using l) d2
theorem fb2_ok(w0:WF h0)(f:FB h0 hh env b o N cap m nd u x C0 C)(g12:env.get 12=some (.int .u32 (x:Int)))(m4:m<4)(k:FQ h0 b o nd u C0 Q):W go fb2 env hh Q:=by
  have f':=f;obtain⟨F,oC,l,d,g0,g4,ex,hm,hN,h20,ux⟩:=f;have x4:x<10000:=Nat.lt_of_lt_of_le ux (Nat.le_trans (Nat.pow_le_pow_right (by omega) (show m≤4 by omega)) (by decide));by_cases c:2≤m
  ·have p0:x%100<100:=Nat.mod_lt _ (by omega);simp(maxSteps:=1000000) (disch:=omega) only[evs,↓reduceIte,Nat.reduceEqDiff,Nat.reduceAdd,Nat.reduceMul,Nat.reduceLeDiff,Nat.reduceLT,Int.reduceNeg,DF,eff,Nat.reduceSub,fwrap_i64,fb2,g4,g12,show(2:Int)≤(m:Int) by omega,rem_u32 x 100 100 rfl (by omega),quo_u32 x 100 100 rfl (by omega) (by omega),dbl_u32 p0];refine pr_ok (t:=0) (p:=x%100) (nd:=nd) (cap:=cap) F.wf oC (by simpa using d) (by omega) (by omega) (by omega) (by simp[T.get_set,g0,hN]) (by simp[T.get_set,g4]) (by simp[T.get_set]) p0 ?_;intro h2 C2 o2 l2 d2 F2;simp(maxSteps:=1000000) (disch:=omega) only[evs,↓reduceIte,Nat.reduceEqDiff,Nat.reduceAdd,Nat.reduceMul,Nat.reduceLeDiff,Nat.reduceLT,Int.reduceNeg,DF,eff,Nat.reduceSub,fwrap_i64,g4];refine fb1_ok (cap:=cap) (m:=m-2) (x:=x/100) (C:=C2) w0 ⟨F.trans F2 w0 (fun y q=>.inl q) (fun y q=>.inl q),o2,by omega,?_,(by simp[T.get_set,g0]),?_,?_,by omega,hN,h20,?_⟩ (by simp[T.get_set]) (by omega) k
   ·have:lowD 2 (x%100)=lowD 2 x:=lowD_mod 2 x;rw[this,FB.acc (j:=2) ex hm c]at d2;simpa using d2
   ·simp[T.get_set];omega
   ·exact FB.div (j:=2) ex hm c
   ·exact FB.lt (j:=2) ux c
  ·simp(maxSteps:=1000000) (disch:=omega) only[evs,↓reduceIte,Nat.reduceEqDiff,Nat.reduceAdd,Nat.reduceMul,Nat.reduceLeDiff,Nat.reduceLT,Int.reduceNeg,DF,eff,Nat.reduceSub,fwrap_i64,fb2,g4,g12,show¬(2:Int)≤(m:Int) by omega];exact fb1_ok (N:=N) (cap:=cap) w0 ⟨F,oC,l,d,(by simp[T.get_set,g0]),(by simp[T.get_set,g4]),ex,hm,hN,h20,ux⟩ (by simp[T.get_set,g12]) (by omega) k
theorem fb4_ok(w0:WF h0)(f:FB h0 hh env b o N cap m nd u x C0 C)(g1:env.get 1=some (.int .u64 (x:Int)))(m8:m<8)(k:FQ h0 b o nd u C0 Q):W go fb4 env hh Q:=by
  obtain⟨F,oC,l,d,g0,g4,ex,hm,hN,h20,ux⟩:=f;have x8:x<100000000:=Nat.lt_of_lt_of_le ux (Nat.le_trans (Nat.pow_le_pow_right (by omega) (show m≤8 by omega)) (by decide));have w1:fwrap .u32 (x:Int)=(x:Int):=fwrap_u32 _ (by omega) (by omega);by_cases c:4≤m
  ·have p0:x%10000%100<100:=Nat.mod_lt _ (by omega);have p1:x%10000/100<100:=by omega
   simp(maxSteps:=1000000) (disch:=omega) only[evs,↓reduceIte,Nat.reduceEqDiff,Nat.reduceAdd,Nat.reduceMul,Nat.reduceLeDiff,Nat.reduceLT,Int.reduceNeg,DF,eff,Nat.reduceSub,fwrap_i64,fb4,g4,g1,w1,show(4:Int)≤(m:Int) by omega,rem_u32 x 10000 10000 rfl (by omega),quo_u32 x 10000 10000 rfl (by omega) (by omega),quo_u32 (x%10000) 100 100 rfl (by omega) (by omega),rem_u32 (x%10000) 100 100 rfl (by omega),dbl_u32 p0,dbl_u32 p1];refine pr_ok (t:=0) (p:=x%10000%100) (nd:=nd) (cap:=cap) F.wf oC (by simpa using d) (by omega) (by omega) (by omega) (by simp[T.get_set,g0,hN]) (by simp[T.get_set,g4]) (by simp[T.get_set]) p0 ?_;intro h2 C2 o2 l2 d2 F2;simp(maxSteps:=1000000) (disch:=omega) only[evs,↓reduceIte,Nat.reduceEqDiff,Nat.reduceAdd,Nat.reduceMul,Nat.reduceLeDiff,Nat.reduceLT,Int.reduceNeg,DF,eff,Nat.reduceSub,fwrap_i64,g4];refine pr_ok (cap:=cap) (t:=1) (p:=x%10000/100) (nd:=nd) F2.wf o2 d2 (by omega) (by omega) (by omega) (by simp[T.get_set,g0,hN]) (by simp[T.get_set,g4]) (by simp[T.get_set]) p1 ?_;intro h3 C3 o3 l3 d3 F3;simp(maxSteps:=1000000) (disch:=omega) only[evs,↓reduceIte,Nat.reduceEqDiff,Nat.reduceAdd,Nat.reduceMul,Nat.reduceLeDiff,Nat.reduceLT,Int.reduceNeg,DF,eff,Nat.reduceSub,fwrap_i64,g4];refine fb2_ok (cap:=cap) (m:=m-4) (x:=x/10000) (C:=C3) w0 ⟨(F.trans F2 w0 (T:=[b]) (fun y q=>.inl q) (fun y q=>.inl q)).trans F3 w0 (fun y q=>.inl q) (fun y q=>.inl q),o3,by omega,?_,(by simp[T.get_set,g0]),?_,?_,by omega,hN,h20,?_⟩ (by simp[T.get_set]) (by omega) k
   ·rw[←List.append_assoc,←low4,FB.acc (j:=4) ex hm c]at d3;exact d3
   ·simp[T.get_set];omega
   ·exact FB.div (j:=4) ex hm c
   ·exact FB.lt (j:=4) ux c
  ·simp(maxSteps:=1000000) (disch:=omega) only[evs,↓reduceIte,Nat.reduceEqDiff,Nat.reduceAdd,Nat.reduceMul,Nat.reduceLeDiff,Nat.reduceLT,Int.reduceNeg,DF,eff,Nat.reduceSub,fwrap_i64,fb4,g4,g1,w1,show¬(4:Int)≤(m:Int) by omega];exact fb2_ok (N:=N) (cap:=cap) w0 ⟨F,oC,l,d,(by simp[T.get_set,g0]),(by simp[T.get_set,g4]),ex,hm,hN,h20,ux⟩ (by simp[T.get_set]) (by omega) k
end
theorem format_ok{h:Heap}{b o cap nd u:Nat}{C:List V}(w:WF h)(oC:Own h b C)(hu64:u<18446744073709551616)(hu:u<10^nd)(h20:nd≤20)(hl:o+nd≤C.length):
    Does go 76 [.slice b o nd cap,.int .u64 (u:Int)] h fun _ h'=>∃C',Own h' b C'∧C'.length=C.length∧(C'.drop o).take nd=(lowD nd u).map c8∧Fr [b] h h':=by
  have len:aP .lenS [.slice b o nd cap]=some (.int .i64 (nd:Int)):=rfl;refine does_fn g76x rfl ?_;simp(maxSteps:=1000000) (disch:=omega) only[evs,↓reduceIte,Nat.reduceEqDiff,Nat.reduceAdd,Nat.reduceMul,Nat.reduceLeDiff,Nat.reduceLT,Int.reduceNeg,DF,eff,Nat.reduceSub,fwrap_i64,fn76x,len];refine W_loop (fun k env hh=>∃(m x:Nat)(C1:List V),FB h hh env b o nd cap m nd u x C C1∧env.get 1=some (.int .u64 (x:Int))∧k=m) nd (by omega) ?_ ?_
  ·exact⟨nd,u,C,⟨Fr.refl w,oC,rfl,⟨by simp[lowD],hl,by simp[lowD]⟩,(by simp[T.get_set]),(by simp[T.get_set]),by simp,Nat.le_refl _,rfl,h20,hu⟩,(by simp[T.get_set]),rfl⟩
  ·rintro k env hh ⟨m,x,C1,f,g1,hk⟩;obtain rfl:=hk.symm;obtain⟨F,o1,l,d,g0,g4,ex,hm,hN,_,ux⟩:=id f;by_cases c:8≤m
   ·have y8:x%100000000<100000000:=Nat.mod_lt _ (by omega);have xu:x≤u:=by rw[ex];exact Nat.div_le_self _ _
    have w1:fwrap .u32 ((x%100000000:Nat):Int)=((x%100000000:Nat):Int):=fwrap_u32 _ (by omega) (by omega);have p0:x%100000000%10000%100<100:=Nat.mod_lt _ (by omega);have p1:x%100000000%10000/100<100:=by omega
    have p2:x%100000000/10000%100<100:=Nat.mod_lt _ (by omega);have p3:x%100000000/10000/100<100:=by omega
    simp(maxSteps:=1000000) (disch:=omega) only[evs,↓reduceIte,Nat.reduceEqDiff,Nat.reduceAdd,Nat.reduceMul,Nat.reduceLeDiff,Nat.reduceLT,Int.reduceNeg,DF,eff,Nat.reduceSub,fwrap_i64,g4,g1,g0,show(8:Int)≤(m:Int) by omega,rem_u64 x 100000000 100000000 rfl (by omega),quo_u64 x 100000000 100000000 rfl (by omega) (by omega),w1,rem_u32 (x%100000000) 10000 10000 rfl (by omega),quo_u32 (x%100000000) 10000 10000 rfl (by omega) (by omega),quo_u32 (x%100000000%10000) 100 100 rfl (by omega) (by omega),rem_u32 (x%100000000%10000) 100 100 rfl (by omega),quo_u32 (x%100000000/10000) 100 100 rfl (by omega) (by omega),rem_u32 (x%100000000/10000) 100 100 rfl (by omega),dbl_u32 p0,dbl_u32 p1,dbl_u32 p2,dbl_u32 p3];refine pr_ok (t:=0) (p:=x%100000000%10000%100) (nd:=nd) (cap:=cap) F.wf o1 (by simpa using d) (by omega) (by omega) (by omega) (by simp[T.get_set,g0,hN]) (by simp[T.get_set,g4]) (by simp[T.get_set]) p0 ?_;intro h2 C2 o2 l2 d2 F2;simp(maxSteps:=1000000) (disch:=omega) only[evs,↓reduceIte,Nat.reduceEqDiff,Nat.reduceAdd,Nat.reduceMul,Nat.reduceLeDiff,Nat.reduceLT,Int.reduceNeg,DF,eff,Nat.reduceSub,fwrap_i64,g4];refine pr_ok (cap:=cap) (t:=1) (p:=x%100000000%10000/100) (nd:=nd) F2.wf o2 d2 (by omega) (by omega) (by omega) (by simp[T.get_set,g0,hN]) (by simp[T.get_set,g4]) (by simp[T.get_set]) p1 ?_;intro h3 C3 o3 l3 d3 F3;simp(maxSteps:=1000000) (disch:=omega) only[evs,↓reduceIte,Nat.reduceEqDiff,Nat.reduceAdd,Nat.reduceMul,Nat.reduceLeDiff,Nat.reduceLT,Int.reduceNeg,DF,eff,Nat.reduceSub,fwrap_i64,g4];refine pr_ok (cap:=cap) (t:=2) (p:=x%100000000/10000%100) (nd:=nd) F3.wf o3 d3 (by omega) (by omega) (by omega) (by simp[T.get_set,g0,hN]) (by simp[T.get_set,g4]) (by simp[T.get_set]) p2 ?_;intro h4 C4 o4 l4 d4 F4;simp(maxSteps:=1000000) (disch:=omega) only[evs,↓reduceIte,Nat.reduceEqDiff,Nat.reduceAdd,Nat.reduceMul,Nat.reduceLeDiff,Nat.reduceLT,Int.reduceNeg,DF,eff,Nat.reduceSub,fwrap_i64,g4];refine pr_ok (cap:=cap) (t:=3) (p:=x%100000000/10000/100) (nd:=nd) F4.wf o4 d4 (by omega) (by omega) (by omega) (by simp[T.get_set,g0,hN]) (by simp[T.get_set,g4]) (by simp[T.get_set]) p3 ?_;intro h5 C5 o5 l5 d5 F5;simp(maxSteps:=1000000) (disch:=omega) only[evs,↓reduceIte,Nat.reduceEqDiff,Nat.reduceAdd,Nat.reduceMul,Nat.reduceLeDiff,Nat.reduceLT,Int.reduceNeg,DF,eff,Nat.reduceSub,fwrap_i64,g4];have F15:Fr [b] h h5:=(((F.trans F2 w (T:=[b]) (fun y q=>.inl q) (fun y q=>.inl q)).trans F3 w (T:=[b]) (fun y q=>.inl q) (fun y q=>.inl q)).trans F4 w (T:=[b]) (fun y q=>.inl q) (fun y q=>.inl q)).trans F5 w (fun y q=>.inl q) (fun y q=>.inl q);refine(roundQ_norm _ _ _).2 ⟨m-8,by omega,m-8,x/100000000,C5,⟨F15,o5,by omega,?_,(by simp[T.get_set,g0]),?_,FB.div (j:=8) ex hm c,by omega,hN,h20,FB.lt (j:=8) ux c⟩,(by simp[T.get_set]),rfl⟩
    ·rw[←List.append_assoc,←List.append_assoc,←List.append_assoc]at d5;have e8:=low8 x;rw[←List.append_assoc,←List.append_assoc]at e8;rw[←e8,FB.acc (j:=8) ex hm c]at d5;exact d5
    ·simp[T.get_set];omega
   ·simp(maxSteps:=1000000) (disch:=omega) only[evs,↓reduceIte,Nat.reduceEqDiff,Nat.reduceAdd,Nat.reduceMul,Nat.reduceLeDiff,Nat.reduceLT,Int.reduceNeg,DF,eff,Nat.reduceSub,fwrap_i64,g4,g1,g0,show¬(8:Int)≤(m:Int) by omega];refine fb4_ok (cap:=cap) w ⟨F,o1,l,d,(by simp[T.get_set,g0]),(by simp[T.get_set,g4]),ex,hm,hN,h20,ux⟩ (by simp[T.get_set,g1]) (by omega) ?_;intro env' h' C' F' o' l' e';simp(maxSteps:=1000000) (disch:=omega) only[evs,↓reduceIte,Nat.reduceEqDiff,Nat.reduceAdd,Nat.reduceMul,Nat.reduceLeDiff,Nat.reduceLT,Int.reduceNeg,DF,eff,Nat.reduceSub,fwrap_i64];exact⟨C',o',l',e',F'⟩
theorem bytes_c8:∀z:Str,bytesOf (z.map c8)=some z
  |[]=>rfl
  |b::z=>by
    show(match bytesOf (z.map c8)with|some s=>some (UInt8.ofNat ((b.toNat:Int)).toNat::s)|none=>none)=_
    rw[bytes_c8 z,Int.toNat_natCast,UInt8.ofNat_toNat]
theorem op_b2s{call:CallF}{loc:List V}{env:T V}{h:Heap}(x:Opd)(K:V→Heap→Prop):OQ (evOp call loc env h (.b2s x)) K↔∃d,evO loc env x=some d∧VQ (ab2s h d) K h:=by
  simp only[evOp,OQ,VQ];cases evO loc env x with
  |none=>simp
  |some d=>
    simp only[];cases e:ab2s h d with
    |none=>simp[e]
    |some v=>
      simp only[e];exact⟨fun⟨_,_,q,k⟩=>by cases q;exact⟨d,rfl,_,e,k⟩,fun⟨_,q,_,e',k⟩=>by cases q;rw[e]at e';cases e';exact⟨_,_,rfl,k⟩⟩
theorem b2s_some{h:Heap}(d:V)(K:V→Heap→Prop):(∃e,some d=some e∧VQ (ab2s h e) K h)↔VQ (ab2s h d) K h:=⟨fun⟨_,e,k⟩=>by cases e;exact k,fun k=>⟨d,rfl,k⟩⟩
theorem b2s_at{h:Heap}{b o n cap:Nat}{C:List V}{z:Str}(oC:Own h b C)(hz:(C.drop o).take n=z.map c8)(hl:o+n≤C.length):ab2s h (.slice b o n cap)=some (.str z):=by
  have:hload h b o n=some (z.map c8):=by rw[oC.ld,dropL_eq,takeL_at _ _ (by simp;omega),hz]
  simp only[ab2s,this,bytes_c8,Option.map_some]
theorem slstr_ok(z:Str)(k k':IntKind)(a b:Int)(i j:Nat)(ha:a=i)(hb:b=j)(h:i≤j)(h2:j≤z.length):aP (.slstr true true) [.str z,.int k a,.int k' b]=some (.str ((z.drop i).take (j-i))):=by
  subst ha hb;show(abounds z.length z.length true true false [.int k i,.int k' j]).map _=_;simp only[abounds,abound_ok k' (j:Int) z.length (by omega) (by omega),Option.bind_some,Int.toNat_natCast,abound_ok k (i:Int) j (by omega) (by omega),Option.map_some]
def dgT:List UInt8:=[48,49,50,51,52,53,54,55,56,57,97,98,99,100,101,102,103,104,105,106,107,108,109,110,111,112,113,114,115,116,117,118,119,120,121,122]
theorem dg_at:∀i,i<10→(dgT.drop i).take 1=[UInt8.ofNat (48+i)]:=by decide+kernel
theorem sm_at2:∀i,i<100→(smT.drop (2*i)).take 2=[UInt8.ofNat (48+i/10),UInt8.ofNat (48+i%10)]:=by decide+kernel
theorem small_ok{h:Heap}{i:Nat}(hi:i<100):Does go 74 [.int .i64 (i:Int)] h fun u h'=>u=.str (dec i)∧h=h':=by
  by_cases c:i<10
  ·have s:=slstr_ok dgT .i64 .i64 (i:Int) ((i:Int)+1) i (i+1) rfl (by omega) (by omega) (by show i+1≤36;omega);rw[show i+1-i=1 by omega,dg_at i c]at s;unfold dgT at s;refine does_fn g74 rfl ?_;simp(maxSteps:=1000000) (disch:=omega) only[fn74,evs,↓reduceIte,Nat.reduceEqDiff,Nat.reduceAdd,Nat.reduceMul,Nat.reduceLeDiff,Nat.reduceLT,Int.reduceNeg,DF,eff,Nat.reduceSub,fwrap_i64,show(i:Int)<10 by omega,s];rw[dec_lt c]
  ·have s:=slstr_ok smT .i64 .i64 ((i:Int) *2) ((i:Int) *2+2) (2*i) (2*i+2) (by omega) (by omega) (by omega) (by show 2*i+2≤200;omega);rw[show 2*i+2-2*i=2 by omega,sm_at2 i hi]at s;unfold smT at s;refine does_fn g74 rfl ?_;simp(maxSteps:=1000000) (disch:=omega) only[fn74,evs,↓reduceIte,Nat.reduceEqDiff,Nat.reduceAdd,Nat.reduceMul,Nat.reduceLeDiff,Nat.reduceLT,Int.reduceNeg,DF,eff,Nat.reduceSub,fwrap_i64,show¬(i:Int)<10 by omega,s];rw[dec_low 2 i (by omega) (.inl (by show 10≤i;omega)) (by omega),pair_low hi]
theorem slA(b n:Nat)(hn:n≤24)(k:IntKind):aP (.sl (some 24) 1 false true false) [.ptr b 0,.int k (n:Int)]=some (.slice b 0 n 24):=by
  simp only[aP,aslarr,abounds,abound_ok k (n:Int) 24 (by omega) (by omega),Option.map_some,Option.getD_none,beq_ff (show(24:Nat)≠0 by omega),cond_false,Int.toNat_natCast,Nat.zero_mul,Nat.add_zero,Nat.sub_zero]
theorem slB(b n:Nat)(hn:n+1≤24)(k k':IntKind)(j:Int)(hj:j=((n+1:Nat):Int)):aP (.sl (some 24) 1 true true false) [.ptr b 0,.int k 1,.int k' j]=some (.slice b 1 n 23):=by
  subst hj;simp only[aP,aslarr,abounds,abound_ok k' ((n+1:Nat):Int) 24 (by omega) (by omega),Option.bind_some,Int.toNat_natCast,abound_ok k 1 (n+1) (by omega) (by omega),Option.map_some,Option.getD_none];have e:(1:Int).toNat=1:=rfl;rw[e,beq_ff (show(24:Nat)≠1 by omega)];simp
theorem nd_dec{u n:Nat}(d:ND u n):dec u=lowD n u:=dec_low n u d.1 (.inl d.2.1) d.2.2.1
abbrev z24:List V:=[.int .u8 0,.int .u8 0,.int .u8 0,.int .u8 0,.int .u8 0,.int .u8 0,.int .u8 0,.int .u8 0,.int .u8 0,.int .u8 0,.int .u8 0,.int .u8 0,.int .u8 0,.int .u8 0,.int .u8 0,.int .u8 0,.int .u8 0,.int .u8 0,.int .u8 0,.int .u8 0,.int .u8 0,.int .u8 0,.int .u8 0,.int .u8 0]
theorem fmtU_ok{h:Heap}{u:Nat}(w:WF h)(T:Tb h)(hu:u<18446744073709551616):Does go 78 [.int .u64 (u:Int),.int .i64 10] h fun v h'=>v=.str (dec u)∧Fr [] h h':=by
  by_cases c:u<100
  ·have w1:fwrap .i64 (u:Int)=(u:Int):=fwrap_i64 _ (by omega) (by omega);refine does_fn g78 rfl ?_;simp(maxSteps:=1000000) (disch:=omega) only[fn78,evs,↓reduceIte,Nat.reduceEqDiff,Nat.reduceAdd,Nat.reduceMul,Nat.reduceLeDiff,Nat.reduceLT,Int.reduceNeg,DF,eff,Nat.reduceSub,fwrap_i64,show(u:Int)<100 by omega,eq_true (show(10:Int)=10 from rfl)];refine OQ_does (small_ok c) ?_;rintro _ _ ⟨rfl,rfl⟩;simp(maxSteps:=1000000) (disch:=omega) only[evs,↓reduceIte,Nat.reduceEqDiff,Nat.reduceAdd,Nat.reduceMul,Nat.reduceLeDiff,Nat.reduceLT,Int.reduceNeg,DF,eff,Nat.reduceSub,fwrap_i64];exact Fr.refl w
  ·obtain⟨h1,e1⟩:∃h1,h1=halloc h z24:=⟨_,rfl⟩;have F1:Fr [] h h1:=e1▸Fr.halloc w _;have o1:Own h1 h.next z24:=e1▸Own.new w _;have T1:Tb h1:=F1.pl 0 tab10 (by simp) T;refine does_fn g78 rfl ?_;simp(maxSteps:=1000000) (disch:=omega) only[fn78,evs,↓reduceIte,Nat.reduceEqDiff,Nat.reduceAdd,Nat.reduceMul,Nat.reduceLeDiff,Nat.reduceLT,Int.reduceNeg,DF,eff,Nat.reduceSub,fwrap_i64,show¬(u:Int)<100 by omega,eq_true (show(10:Int)=10 from rfl),←e1];refine OQ_does (digits_ok T1 hu (by omega)) ?_;rintro _ _ ⟨n,rfl,d,rfl⟩;have hn:=d.2.2.2;simp(maxSteps:=1000000) (disch:=omega) only[evs,↓reduceIte,Nat.reduceEqDiff,Nat.reduceAdd,Nat.reduceMul,Nat.reduceLeDiff,Nat.reduceLT,Int.reduceNeg,DF,eff,Nat.reduceSub,fwrap_i64,slA h.next n (by omega) .i64];refine OQ_does (format_ok F1.wf o1 hu d.1 hn (by show 0+n≤24;omega)) ?_;rintro _ h2 ⟨C,o2,l2,e2,F2⟩;have bs:ab2s h2 (.slice h.next 0 n 24)=some (.str (dec u)):=b2s_at o2 (by rw[e2,nd_dec d]) (by rw[l2];show 0+n≤24;omega);simp(maxSteps:=1000000) (disch:=omega) only[evs,↓reduceIte,Nat.reduceEqDiff,Nat.reduceAdd,Nat.reduceMul,Nat.reduceLeDiff,Nat.reduceLT,Int.reduceNeg,DF,eff,Nat.reduceSub,fwrap_i64,slA h.next n (by omega) .i64,op_b2s,b2s_some,bs];exact F1.fresh F2 w (Nat.le_refl _)
theorem fmtI_ok{h:Heap}{v:Int}(w:WF h)(T:Tb h)(hv:R64 v):Does go 48 [.int .i64 v,.int .i64 10] h fun u h'=>u=.str (decI v)∧Fr [] h h':=by
  obtain⟨v1,v2⟩:=hv;by_cases c:0≤v∧v<100
  ·obtain⟨n,rfl⟩:∃n:Nat,v=n:=⟨v.toNat,by omega⟩;refine does_fn g48 rfl ?_;simp(maxSteps:=1000000) (disch:=omega) only[fn48,evs,↓reduceIte,Nat.reduceEqDiff,Nat.reduceAdd,Nat.reduceMul,Nat.reduceLeDiff,Nat.reduceLT,Int.reduceNeg,DF,eff,Nat.reduceSub,fwrap_i64,show(0:Int)≤(n:Int) by omega,show(n:Int)<100 by omega,eq_true (show(10:Int)=10 from rfl)];refine OQ_does (small_ok (by omega)) ?_;rintro _ _ ⟨rfl,rfl⟩;simp(maxSteps:=1000000) (disch:=omega) only[evs,↓reduceIte,Nat.reduceEqDiff,Nat.reduceAdd,Nat.reduceMul,Nat.reduceLeDiff,Nat.reduceLT,Int.reduceNeg,DF,eff,Nat.reduceSub,fwrap_i64];exact⟨by simp[decI,show¬(n:Int)<0 by omega],Fr.refl w⟩
  ·obtain⟨h1,e1⟩:∃h1,h1=halloc h z24:=⟨_,rfl⟩;have F1:Fr [] h h1:=e1▸Fr.halloc w _;have o1:Own h1 h.next z24:=e1▸Own.new w _;have T1:Tb h1:=F1.pl 0 tab10 (by simp) T;by_cases s:v<0
   ·obtain⟨u,hu⟩:∃u:Nat,-v=u:=⟨(-v).toNat,by omega⟩;have w1:fwrap .u64 (0-fwrap .u64 v)=(u:Int):=by
      rw[fwrap_eq,fwrap_eq];simp only[IntKind.wrap,IntKind.bits,IntKind.signed];simp;omega
    refine does_fn g48 rfl ?_;simp(maxSteps:=1000000) (disch:=omega) only[fn48,evs,↓reduceIte,Nat.reduceEqDiff,Nat.reduceAdd,Nat.reduceMul,Nat.reduceLeDiff,Nat.reduceLT,Int.reduceNeg,DF,eff,Nat.reduceSub,fwrap_i64,show¬(0:Int)≤v by omega,s,eq_true (show(10:Int)=10 from rfl),←e1,aP_neg,w1];refine OQ_does (digits_ok T1 (u:=u) (by omega) (by omega)) ?_;rintro _ _ ⟨n,rfl,d,rfl⟩;have hn:=d.2.2.2;simp(maxSteps:=1000000) (disch:=omega) only[evs,↓reduceIte,Nat.reduceEqDiff,Nat.reduceAdd,Nat.reduceMul,Nat.reduceLeDiff,Nat.reduceLT,Int.reduceNeg,DF,eff,Nat.reduceSub,fwrap_i64,slB h.next n (by omega) .i64 .i64 (1+(n:Int)) (by omega)];refine OQ_does (format_ok F1.wf o1 (by omega) d.1 hn (by show 1+n≤24;omega)) ?_;rintro _ h2 ⟨C,o2,l2,e2,F2⟩;have ix:aP (.ixa 24 1) [.ptr h.next 0,.int .i64 0]=some (.ptr h.next 0):=by rw[aP_ixa _ _ _ _ _ _ (by omega) (by omega)];rfl
    have lC:C.length=24:=l2;simp(maxSteps:=1000000) (disch:=omega) only[evs,↓reduceIte,Nat.reduceEqDiff,Nat.reduceAdd,Nat.reduceMul,Nat.reduceLeDiff,Nat.reduceLT,Int.reduceNeg,DF,eff,Nat.reduceSub,fwrap_i64,ix,s];refine store_step (c':=C.set 0 (c8 45)) F2.wf o2 rfl rfl (updO_set1 C 0 _ (by omega)) ?_;intro h3 o3 F3 n3;have bs:ab2s h3 (.slice h.next 0 (n+1) 24)=some (.str (decI v)):=by
      refine b2s_at o3 ?_ (by simp;omega);have:decI v=45::lowD n u:=by unfold decI;rw[if_pos s,hu,Int.toNat_natCast,nd_dec d]
      rw[this,List.map_cons,←e2];cases C with
      |nil=>simp at lC
      |cons y C=>simp
    simp(maxSteps:=1000000) (disch:=omega) only[evs,↓reduceIte,Nat.reduceEqDiff,Nat.reduceAdd,Nat.reduceMul,Nat.reduceLeDiff,Nat.reduceLT,Int.reduceNeg,DF,eff,Nat.reduceSub,fwrap_i64,slA h.next (n+1) (by omega) .i64,show(1+(n:Int))=((n+1:Nat):Int) by omega,op_b2s,b2s_some,bs];exact(F1.fresh F2 w (Nat.le_refl _)).fresh F3 w (Nat.le_refl _)
   ·obtain⟨u,rfl⟩:∃u:Nat,v=u:=⟨v.toNat,by omega⟩;have w1:fwrap .u64 (u:Int)=(u:Int):=fwrap_u64 _ (by omega) (by omega);refine does_fn g48 rfl ?_;simp(maxSteps:=1000000) (disch:=omega) only[fn48,evs,↓reduceIte,Nat.reduceEqDiff,Nat.reduceAdd,Nat.reduceMul,Nat.reduceLeDiff,Nat.reduceLT,Int.reduceNeg,DF,eff,Nat.reduceSub,fwrap_i64,show(0:Int)≤(u:Int) by omega,show¬(u:Int)<100 by omega,s,eq_true (show(10:Int)=10 from rfl),←e1,w1];refine OQ_does (digits_ok T1 (u:=u) (by omega) (by omega)) ?_;rintro _ _ ⟨n,rfl,d,rfl⟩;have hn:=d.2.2.2;simp(maxSteps:=1000000) (disch:=omega) only[evs,↓reduceIte,Nat.reduceEqDiff,Nat.reduceAdd,Nat.reduceMul,Nat.reduceLeDiff,Nat.reduceLT,Int.reduceNeg,DF,eff,Nat.reduceSub,fwrap_i64,slB h.next n (by omega) .i64 .i64 (1+(n:Int)) (by omega)];refine OQ_does (format_ok F1.wf o1 (by omega) d.1 hn (by show 1+n≤24;omega)) ?_;rintro _ h2 ⟨C,o2,l2,e2,F2⟩;have bs:ab2s h2 (.slice h.next 1 n 23)=some (.str (decI u)):=by
      refine b2s_at o2 ?_ (by rw[l2];show 1+n≤24;omega);have:decI (u:Int)=lowD n u:=by unfold decI;rw[if_neg s,Int.toNat_natCast,nd_dec d]
      rw[this,e2]
    simp(maxSteps:=1000000) (disch:=omega) only[evs,↓reduceIte,Nat.reduceEqDiff,Nat.reduceAdd,Nat.reduceMul,Nat.reduceLeDiff,Nat.reduceLT,Int.reduceNeg,DF,eff,Nat.reduceSub,fwrap_i64,slB h.next n (by omega) .i64 .i64 (1+(n:Int)) (by omega),s,op_b2s,b2s_some,bs];exact F1.fresh F2 w (Nat.le_refl _)
theorem fmtU10_ok{h:Heap}{u:Nat}(w:WF h)(T:Tb h)(hu:u<18446744073709551616):Does go 49 [.int .u64 (u:Int),.int .i64 10] h fun v h'=>v=.str (dec u)∧Fr [] h h':=by
  refine does_fn g49 rfl ?_;simp(maxSteps:=1000000) (disch:=omega) only[fn49,evs,↓reduceIte,Nat.reduceEqDiff,Nat.reduceAdd,Nat.reduceMul,Nat.reduceLeDiff,Nat.reduceLT,Int.reduceNeg,DF,eff,Nat.reduceSub,fwrap_i64];refine OQ_does (fmtU_ok w T hu) ?_;rintro _ h1 ⟨rfl,F⟩;simp(maxSteps:=1000000) (disch:=omega) only[evs,↓reduceIte,Nat.reduceEqDiff,Nat.reduceAdd,Nat.reduceMul,Nat.reduceLeDiff,Nat.reduceLT,Int.reduceNeg,DF,eff,Nat.reduceSub,fwrap_i64];exact F
theorem fmtI10_ok{h:Heap}{v:Int}(w:WF h)(T:Tb h)(hv:R64 v):Does go 28 [.int .i64 v,.int .i64 10] h fun u h'=>u=.str (decI v)∧Fr [] h h':=by
  refine does_fn g28 rfl ?_;simp(maxSteps:=1000000) (disch:=omega) only[fn28,evs,↓reduceIte,Nat.reduceEqDiff,Nat.reduceAdd,Nat.reduceMul,Nat.reduceLeDiff,Nat.reduceLT,Int.reduceNeg,DF,eff,Nat.reduceSub,fwrap_i64];refine OQ_does (fmtI_ok w T hv) ?_;rintro _ h1 ⟨rfl,F⟩;simp(maxSteps:=1000000) (disch:=omega) only[evs,↓reduceIte,Nat.reduceEqDiff,Nat.reduceAdd,Nat.reduceMul,Nat.reduceLeDiff,Nat.reduceLT,Int.reduceNeg,DF,eff,Nat.reduceSub,fwrap_i64];exact F
end Go.Ev.Lay
namespace Go.Ev
theorem Fr.tag{S:List Nat}{h h':Heap}{b ty n:Nat}(f:Fr S h h')(hb:h.next≤b):Fr S h (htag h' b ty n):=
  ⟨f.next,f.wf,f.own,f.pl,f.lp,f.ro,fun x y hx e=>by show(h'.tys.set b _).get x=_;rw[T.get_set_ne _ _ (by omega)];exact f.ty x y hx e⟩
theorem own_kill{h:Heap}{b:Nat}{c:List V}(w:WF h)(a:Own h b c):∃h',hkill h b=some h'∧Fr [b] h h':=by
  have hb:=a.lt w;obtain⟨f,k,e,x⟩:=a;have hf:f<h.next:=by
    rcases x with⟨_,rfl⟩|⟨e',x⟩
    ·exact hb
    ·rcases Nat.lt_or_ge f h.next with y|y
     ·exact y
     ·rw[(w f y).2]at x;cases x
  have go:∀(e1:Nat),(h.fams.get f=none∧f=b∨∃e,h.fams.get f=some (b,e))→Fr [b] h ⟨h.bl,h.next+1,h.fams.set f (h.next,e1),h.tys⟩:=by
    intro e1 x;refine⟨Nat.le_succ _,?_,?_,?_,fun _ _ _ q=>q,?_,fun _ _ _ q=>q⟩
    ·intro p hp;have hp':h.next+1≤p:=hp;have:=w p (by omega);exact⟨this.1,by show(h.fams.set f _).get p=none;rw[T.get_set_ne _ _ (by omega)];exact this.2⟩
    ·rintro q d hq ⟨f1,k1,e2,x1⟩;simp at hq;refine⟨f1,k1,e2,?_⟩;have hne:f1≠f:=by
       rintro rfl;rcases x with⟨xa,xb⟩|⟨e',xa⟩
       ·rcases x1 with⟨_,y⟩|⟨e3,y⟩
        ·exact hq (y.symm.trans xb)
        ·rw[xa]at y;cases y
       ·rcases x1 with⟨y,_⟩|⟨e3,y⟩
        ·rw[xa]at y;cases y
        ·rw[xa]at y;cases y;exact hq rfl
     show((h.fams.set f _).get f1=none∧_)∨∃e,(h.fams.set f _).get f1=some (q,e);rw[T.get_set_ne _ _ hne];exact x1
    ·rintro q d hq ⟨⟨k1,e2⟩,x1⟩;simp at hq;refine⟨⟨k1,e2⟩,?_⟩;show(h.fams.set f _).get q=none;rw[T.get_set_ne _ _ ?_]
     ·exact x1
     ·rintro rfl;rcases x with⟨_,xb⟩|⟨e',xa⟩
      ·exact hq xb
      ·rw[xa]at x1;cases x1
    ·rintro q y ⟨f',k',ow,p1,p2,p3,p4⟩;have hne:f'≠f:=by
       rintro rfl;rcases x with⟨xa,_⟩|⟨e',xa⟩
       ·rw[p2]at xa;cases xa
       ·rw[p2]at xa;cases xa;rw[p3]at e;cases e
     exact⟨f',k',ow,p1,by show(h.fams.set f _).get f'=_;rw[T.get_set_ne _ _ hne];exact p2,p3,by show ow<h.next+1;omega⟩
  simp only[hkill,e];rcases x with⟨x,rfl⟩|⟨e',x⟩
  ·rw[x];exact⟨_,rfl,go _ (.inl ⟨x,rfl⟩)⟩
  ·rw[x];simp only[Nat.beq_refl,cond_true];exact⟨_,rfl,go _ (.inr ⟨e',x⟩)⟩
theorem op_ux{call:CallF}{loc:List V}{env:T V}{h:Heap}(k:UK)(xs:List Opd)(K:V→Heap→Prop):OQ (evOp call loc env h (.ux k xs)) K↔∃vs,evOs loc env xs=some vs∧OQ (aux h k vs) K:=by
  simp only[evOp];cases evOs loc env xs with
  |none=>simp[OQ]
  |some vs=>simp
theorem ux_some{h:Heap}{k:UK}{vs:List V}(K:V→Heap→Prop):(∃ws,some vs=some ws∧OQ (aux h k ws) K)↔OQ (aux h k vs) K:=⟨fun⟨_,e,q⟩=>by cases e;exact q,fun q=>⟨_,rfl,q⟩⟩
theorem ux_tou{h:Heap}{b o:Nat}{v:V}(e:hload1 h b o=some v):aux h .tou [.ptr b o]=some (.ptr b o,h):=by simp only[aux,atou,e]
theorem ux_same{h:Heap}(v:V):aux h (.ext .same) [v]=some (v,h):=rfl
theorem ux_fru{h:Heap}{b ty n:Nat}(e:h.tys.get b=some (ty,n))(hn:0<n):aux h (.fru [(ty,n,0)]) [.ptr b 0]=some (.ptr b 0,h):=by
  have:Nat.blt 0 n=true:=(Nat.blt_eq ..).mpr hn;simp only[aux,afru,e,this,List.any_cons,Nat.beq_refl,Bool.true_and,Bool.true_or,cond_true]
theorem ux_pe(h:Heap)(b o:Nat):aux h .pe [.ptr b o,.ptr b o]=some (.bool false,h):=by simp only[aux,ape,Nat.beq_refl,Bool.true_and,cond_true]
theorem ux_alt(h:Heap)(ty:Nat)(z:List V):aux h (.alt ty z) []=some (.ptr h.next 0,htag (halloc h z) h.next ty z.length):=rfl
end Go.Ev
namespace Go.Ev.Lay
set_option maxRecDepth 4000
theorem bytes8_c8:∀z:Str,Ev.bytes8 (z.map c8)=some z
  |[]=>rfl
  |b::z=>by
    show(bif Nat.blt b.toNat 256 then(match Ev.bytes8 (z.map c8)with|some s=>some (UInt8.ofNat b.toNat::s)|none=>none)else none)=_
    rw[(Nat.blt_eq ..).mpr b.toNat_lt,cond_true,bytes8_c8 z,UInt8.ofNat_toNat]
theorem ones_c8:∀z:Str,onesB (z.map c8)=true
  |[]=>rfl
  |b::z=>by rw[List.map_cons,onesB_cons,ones_c8 z];rfl
/-- the bytes of a builder -/
def Bv(h:Heap)(v:V)(z:Str):Prop:=(v=.nils∧z=[])∨∃bb,v=.sliceU bb 0 z.length 1∧0<z.length∧Own h bb (z.map c8)∧h.tys.get bb=some (5,0)
section
variable {h h' : Heap} {v : V} {z : Str}
theorem Bv.one(a:Bv h v z):v.one=true:=by rcases a with⟨rfl,_⟩|⟨b,rfl,_⟩<;>rfl
theorem Bv.cells(a:Bv h v z):v.cells=[v]:=by rcases a with⟨rfl,_⟩|⟨b,rfl,_⟩<;>rfl
theorem Bv.fr{S:List Nat}(w:WF h)(a:Bv h v z)(f:Fr S h h')(hs:∀x∈vb v,x∉S):Bv h' v z:=by
  rcases a with⟨rfl,rfl⟩|⟨b,rfl,h1,o,t⟩
  ·exact .inl ⟨rfl,rfl⟩
  ·exact .inr ⟨b,rfl,h1,f.own b _ (hs b (by simp[vb])) o,f.ty b _ (o.lt w) t⟩
theorem Bv.lt(w:WF h)(a:Bv h v z):∀x∈vb v,x<h.next:=by
  rcases a with⟨rfl,_⟩|⟨b,rfl,_,o,_⟩
  ·simp[vb]
  ·simpa[vb]using o.lt w
theorem Bv.append(w:WF h)(a:Bv h v z)(s:Str)(hs:2*(z.length+s.length)+1024≤281474976710656):
    ∃v' h',aux h (.apt 5 1 1) [v,.str s]=some (v',h')∧Bv h' v' (z++s)∧Fr (vb v) h h'∧(v'=v∨v'=.sliceU h.next 0 (z++s).length 1):=by
  show∃v' h',aapt h 5 1 1 v (.str s)=_∧_;have e1:Ev.srcLen (.str s)=some s.length:=rfl;by_cases hn:s.length=0
  ·have:s=[]:=List.eq_nil_of_length_eq_zero hn;subst this;have ea:aapp h 1 1 v (.str [])=some (v,h):=by
     unfold aapp;rw[e1];simp only[List.length_nil,beq_tt rfl,cond_true];rcases a with⟨rfl,rfl⟩|⟨b,rfl,_⟩<;>rfl
   refine⟨v,h,?_,by simpa using a,Fr.refl w,.inl rfl⟩;unfold aapt;rw[ea];rcases a with⟨rfl,rfl⟩|⟨b,rfl,_,o,_⟩
   ·rfl
   ·simp only[beq_ff (show b≠h.next by have:=o.lt w;omega),cond_false]
  ·have e2:Ev.srcCells h 1 (.str s) s.length=some (s.map c8):=by
     show(bif Nat.beq 1 1&&Nat.beq s.length s.length then some (s.map c8)else none)=_;simp only[Nat.beq_refl,Bool.and_self,cond_true]
   rcases a with⟨rfl,rfl⟩|⟨b,rfl,h1,o,t⟩
   ·have hg:Nat.ble ((2*s.length+1024) *1) 281474976710656=true:=by rw[Nat.ble_eq];simp at hs;omega
    have ea:aapp h 1 1 .nils (.str s)=some (.sliceU h.next 0 s.length 1,halloc h (s.map c8)):=by
      unfold aapp;rw[e1];simp only[beq_ff hn,cond_false,e2,agrow,hg,cond_true]
    refine⟨.sliceU h.next 0 s.length 1,htag (halloc h (s.map c8)) h.next 5 0,?_,.inr ⟨h.next,rfl,by simp;omega,?_,T.get_set_self _ _ _⟩,(Fr.halloc w _).tag (Nat.le_refl _),.inr (by simp)⟩
    ·unfold aapt;rw[ea];simp only[Nat.beq_refl,cond_true]
    ·simpa using(show Own (htag (halloc h (s.map c8)) h.next 5 0) h.next (s.map c8)from Own.new w (s.map c8))
   ·obtain⟨h',eh,o',f⟩:=own_super (pos:=0+z.length*1) (c':=z.map c8++s.map c8) w o;have hb:=o.lt w;have g1:(Nat.beq 1 1&&Nat.ble ((2*(z.length+s.length)+1024) *1) 281474976710656)=true:=by simp only[Nat.beq_refl,Bool.true_and,Nat.ble_eq];omega
    have g2:(Nat.ble (0+z.length*1) (z.map c8).length&&onesB (s.map c8))=true:=by simp[ones_c8]
    have ea:aapp h 1 1 (.sliceU b 0 z.length 1) (.str s)=some (.sliceU h.next 0 (z.length+s.length) 1,h'):=by
      unfold aapp;rw[e1];simp only[beq_ff hn,cond_false,e2,g1,cond_true,o.cells,ble_ff (show¬0+(z.length+s.length) *1≤(z.map c8).length by simp;omega),g2,dropL_zero,takeL_at _ _ (show z.length*1≤(z.map c8).length by simp)];rw[List.take_of_length_le (by simp),eh];rfl
    refine⟨.sliceU h.next 0 (z.length+s.length) 1,htag h' h.next 5 0,?_,.inr ⟨h.next,by simp,by simp;omega,?_,T.get_set_self _ _ _⟩,f.tag (Nat.le_refl _),.inr (by simp)⟩
    ·unfold aapt;rw[ea];simp only[Nat.beq_refl,cond_true,t]
    ·rw[List.map_append];exact(show Own (htag h' h.next 5 0) h.next (z.map c8++s.map c8)from o')
/-- a builder in block b -/
def Bd(h:Heap)(b:Nat)(v:V)(z:Str):Prop:=h.tys.get b=some (72,2)∧b∉vb v∧Bv h v z∧∃a,Own h b [a,v]∧(a=.nilp∨a=.ptr b 0)
/-- something was written to it, and to nothing else -/
def Bw(b:Nat)(v:V)(h h':Heap)(v':V):Prop:=Fr (b::vb v) h h'∧∀x∈vb v',x∈vb v∨h.next≤x
variable {b : Nat} {v1 v2 : V} {h1 h2 : Heap}
theorem Bw.trans(w:WF h)(a:Bw b v h h1 v1)(c:Bw b v1 h1 h2 v2):Bw b v h h2 v2:=
  ⟨a.1.trans c.1 w (fun _ m=>.inl m) (fun x m=>by
    rcases List.mem_cons.1 m with rfl|m
    ·exact .inl (by simp)
    ·exact(a.2 x m).imp (fun q=>by simp[q]) id),
   fun x m=>(c.2 x m).elim (fun q=>a.2 x q) fun q=>.inr (Nat.le_trans a.1.next q)⟩
theorem Bw.fr(f:Fr [] h h')(w:WF h):Bw b v h h' v:=⟨f.trans (Fr.refl (S:=[]) f.wf) w (by simp) (by simp),fun _ m=>.inl m⟩
theorem Bd.fr(w:WF h)(B:Bd h b v z)(f:Fr [] h h'):Bd h' b v z:=by
  obtain⟨t,nv,bv,a,o,ha⟩:=B;exact⟨f.ty _ _ (o.lt w) t,nv,bv.fr w f (by simp),a,f.get o,ha⟩
theorem Bd.lt(w:WF h)(B:Bd h b v z):b<h.next:=by
  obtain⟨_,_,_,a,o,_⟩:=B;exact o.lt w
theorem Bd.new(w:WF h):Bd (htag (halloc h [.nilp,.nils]) h.next 72 2) h.next .nils []∧Fr [] h (htag (halloc h [.nilp,.nils]) h.next 72 2):=
  ⟨⟨T.get_set_self _ _ _,by simp[vb],.inl ⟨rfl,rfl⟩,.nilp,(show Own _ _ _ from Own.new w _),.inl rfl⟩,(Fr.halloc w _).tag (Nat.le_refl _)⟩
theorem copyCheck_ok(w:WF h)(B:Bd h b v z):Does go 47 [.ptr b 0] h fun u h'=>u=.tup []∧Bd h' b v z∧Fr [b] h h':=by
  obtain⟨t,nv,bv,a,o,rfl|rfl⟩:=B
  ·have l0:hload1 h b 0=some .nilp:=o.ld1 0;have q:aP (.nil 0 false) [.nilp,.nilp]=some (.bool true):=rfl;refine does_fn g47 rfl ?_;simp(maxSteps:=1000000) (disch:=omega) only[fn47,evs,↓reduceIte,Nat.reduceEqDiff,Nat.reduceAdd,Nat.reduceMul,Nat.reduceLeDiff,Nat.reduceLT,Int.reduceNeg,DF,eff,Nat.reduceSub,fwrap_i64,l0,q,op_ux,ux_some,ux_tou l0,ux_same,ux_fru t (by omega:0<2)];refine store_step (c':=[.ptr b 0,v]) w o rfl rfl rfl ?_;intro h2 o2 F2 n2;simp(maxSteps:=1000000) (disch:=omega) only[evs,↓reduceIte,Nat.reduceEqDiff,Nat.reduceAdd,Nat.reduceMul,Nat.reduceLeDiff,Nat.reduceLT,Int.reduceNeg,DF,eff,Nat.reduceSub,fwrap_i64];exact⟨⟨F2.ty _ _ (o.lt w) t,nv,bv.fr w F2 (fun x hx m=>nv (by simp at m;exact m▸hx)),_,o2,.inr rfl⟩,F2⟩
  ·have l0:hload1 h b 0=some (.ptr b 0):=o.ld1 0;have q:aP (.nil 0 false) [.ptr b 0,.nilp]=some (.bool false):=rfl;refine does_fn g47 rfl ?_;simp(maxSteps:=1000000) (disch:=omega) only[fn47,evs,↓reduceIte,Nat.reduceEqDiff,Nat.reduceAdd,Nat.reduceMul,Nat.reduceLeDiff,Nat.reduceLT,Int.reduceNeg,DF,eff,Nat.reduceSub,fwrap_i64,l0,q,op_ux,ux_some,ux_pe];exact⟨⟨t,nv,bv,_,o,.inr rfl⟩,Fr.refl w⟩
theorem writeString_ok{s:Str}(w:WF h)(B:Bd h b v z)(hs:2*(z.length+s.length)+1024≤281474976710656):
    Does go 27 [.ptr b 0,.str s] h fun u h'=>u=.tup [.int .i64 (s.length:Int),.nili]∧∃v',Bd h' b v' (z++s)∧Bw b v h h' v':=by
  refine does_fn g27 rfl ?_;simp(maxSteps:=1000000) (disch:=omega) only[fn27,evs,↓reduceIte,Nat.reduceEqDiff,Nat.reduceAdd,Nat.reduceMul,Nat.reduceLeDiff,Nat.reduceLT,Int.reduceNeg,DF,eff,Nat.reduceSub,fwrap_i64];refine OQ_does (copyCheck_ok w B) ?_;rintro _ h1 ⟨rfl,⟨t,nv,bv,a,o,ha⟩,F⟩;have l1:hload1 h1 b 1=some v:=o.ld1 1;obtain⟨v',h2,e2,bv2,F2,hv⟩:=bv.append F.wf s hs;have o2:=F2.own b _ nv o;simp(maxSteps:=1000000) (disch:=omega) only[evs,↓reduceIte,Nat.reduceEqDiff,Nat.reduceAdd,Nat.reduceMul,Nat.reduceLeDiff,Nat.reduceLT,Int.reduceNeg,DF,eff,Nat.reduceSub,fwrap_i64,l1,op_ux,ux_some,e2];refine store_step (c':=[a,v']) F2.wf o2 (by rw[bv2.cells];rfl) (by rw[bv2.cells,onesB_cons,bv2.one];rfl) (by rw[bv2.cells];rfl) ?_;intro h3 o3 F3 n3;simp(maxSteps:=1000000) (disch:=omega) only[evs,↓reduceIte,Nat.reduceEqDiff,Nat.reduceAdd,Nat.reduceMul,Nat.reduceLeDiff,Nat.reduceLT,Int.reduceNeg,DF,eff,Nat.reduceSub,fwrap_i64,show aP .lenStr [.str s]=some (.int .i64 (s.length:Int))from rfl];have nn:=F.next;have nv':b∉vb v':=by
    rcases hv with rfl|rfl
    ·exact nv
    ·have:=o.lt F.wf;simp[vb];omega
  refine⟨v',⟨F3.ty _ _ (o2.lt F2.wf) (F2.ty _ _ (o.lt F.wf) t),nv',bv2.fr F2.wf F3 (fun x hx m=>nv' (by simp at m;exact m▸hx)),a,o3,ha⟩,?_,?_⟩
  ·exact(F.trans F2 w (T:=b::vb v) (fun x m=>.inl (by simp at m;simp[m])) (fun x m=>.inl (List.mem_cons_of_mem _ m))).trans F3 w (fun x m=>.inl m) (fun x m=>.inl (by simp at m;simp[m]))
  ·intro x m;rcases hv with rfl|rfl
   ·exact .inl m
   ·simp[vb]at m;exact .inr (by omega)
theorem builderLen_ok(B:Bd h b v z):Does go 30 [.ptr b 0] h fun u h'=>u=.int .i64 (z.length:Int)∧h=h':=by
  obtain⟨t,nv,bv,a,o,ha⟩:=B;have l1:hload1 h b 1=some v:=o.ld1 1;rcases bv with⟨rfl,rfl⟩|⟨bb,rfl,h1,o2,t2⟩
  ·refine does_fn g30 rfl ?_;simp(maxSteps:=1000000) (disch:=omega) only[fn30,evs,↓reduceIte,Nat.reduceEqDiff,Nat.reduceAdd,Nat.reduceMul,Nat.reduceLeDiff,Nat.reduceLT,Int.reduceNeg,DF,eff,Nat.reduceSub,fwrap_i64,l1];rfl
  ·refine does_fn g30 rfl ?_;simp(maxSteps:=1000000) (disch:=omega) only[fn30,evs,↓reduceIte,Nat.reduceEqDiff,Nat.reduceAdd,Nat.reduceMul,Nat.reduceLeDiff,Nat.reduceLT,Int.reduceNeg,DF,eff,Nat.reduceSub,fwrap_i64,l1]
theorem builderString_ok(w:WF h)(B:Bd h b v z)(hz:z.length<9223372036854775808):Does go 25 [.ptr b 0] h fun u h'=>u=.str z∧Fr (b::vb v) h h':=by
  obtain⟨t,nv,bv,a,o,ha⟩:=B;have l1:hload1 h b 1=some v:=o.ld1 1;rcases bv with⟨rfl,rfl⟩|⟨bb,rfl,h1,o2,t2⟩
  ·have s1:aux h .sd [.nils]=some (.nilp,h):=rfl;have s2:aux h (.us 5) [.nilp,.int .i64 0]=some (.str [],h):=rfl;refine does_fn g25 rfl ?_;simp(maxSteps:=1000000) (disch:=omega) only[fn25,evs,↓reduceIte,Nat.reduceEqDiff,Nat.reduceAdd,Nat.reduceMul,Nat.reduceLeDiff,Nat.reduceLT,Int.reduceNeg,DF,eff,Nat.reduceSub,fwrap_i64,l1,op_ux,ux_some,s1,s2];exact Fr.refl w
  ·obtain⟨h2,e2,F2⟩:=own_kill w o2;have s1:aux h .sd [.sliceU bb 0 z.length 1]=some (.ptr bb 0,h):=by
     obtain⟨m,hm⟩:∃m,z.length=m+1:=⟨z.length-1,by omega⟩;rw[hm];rfl
   have s2:aux h (.us 5) [.ptr bb 0,.int .i64 (z.length:Int)]=some (.str z,h2):=by
     show(bif Nat.blt 0 z.length&&Nat.blt z.length 9223372036854775808 then _ else none)=_;have g1:Nat.blt 0 z.length=true:=(Nat.blt_eq ..).mpr h1;have g2:Nat.blt z.length 9223372036854775808=true:=(Nat.blt_eq ..).mpr hz;simp only[g1,g2,Bool.and_self,cond_true,t2,Nat.beq_refl,o2.ld,dropL_zero,takeL_at _ _ (show z.length≤(z.map c8).length by simp)];rw[List.take_of_length_le (by simp),bytes8_c8];simp only[e2]
   refine does_fn g25 rfl ?_;simp(maxSteps:=1000000) (disch:=omega) only[fn25,evs,↓reduceIte,Nat.reduceEqDiff,Nat.reduceAdd,Nat.reduceMul,Nat.reduceLeDiff,Nat.reduceLT,Int.reduceNeg,DF,eff,Nat.reduceSub,fwrap_i64,l1,op_ux,ux_some,s1,s2];exact F2.trans (Fr.refl (S:=[]) F2.wf) w (fun x m=>.inl (by simp at m;simp[m,vb])) (by simp)
end
set_option maxRecDepth 4000
theorem quoted_ok{h:Heap}{w:Str}(T:Tb h)(hw:w∈words):Does go 45 [.str w] h fun u h'=>u=.str (quo w)∧h=h':=
  ⟨.str (quo w),h,ev_ov noQuoted rfl (by unfold lov;rw[if_neg (by simp),if_pos ⟨rfl,T⟩];simp only[if_pos hw]),rfl,rfl⟩
theorem livesT_ok{h:Heap}(T:Tb h):Does go 8 [] h fun u h'=>u=.bool true∧h=h':=
  ⟨.bool true,h,ev_ov noLives rfl (by unfold lov;rw[if_pos ⟨rfl,rfl,T⟩]),rfl,rfl⟩
theorem quo_len(w:Str):(quo w).length≤2*w.length+2:=by
  have:∀w:Str,(w.flatMap fun c=>if c=92∨c=34 then[92,c]else[c]).length≤2*w.length:=by
    intro w;induction w with
    |nil=>simp
    |cons c w ih=>rw[List.flatMap_cons,List.length_append,List.length_cons];split<;>simp only[List.length_cons,List.length_nil]<;>omega
  have:=this w;simp only[quo,List.length_append,List.length_cons,List.length_nil];omega
theorem Tb.fr{S:List Nat}{h h':Heap}(T:Tb h)(f:Fr S h h')(h0:0∉S):Tb h':=f.pl 0 tab10 h0 T
def attT(p:Str×Str):Str:=32::p.1++[61]++quo p.2
namespace CT
/-- siblings as text -/
def txt:CT→Str
  |.nil=>[]
  |.cons k tg ky at' tx sub nx=>(if k=2 then quo tx else 60::tg++(if ky=[]then[]else 58::ky)++at'.flatMap attT++(if sub.len=0 then[47,62]else 62::sub.txt++60::47::tg++[62]))++nx.txt
/-- its texts are those that are drawn -/
def wds:CT→Prop
  |.nil=>True
  |.cons _ _ _ at' tx sub nx=>tx∈words∧(∀p∈at',p.2∈words)∧sub.wds∧nx.wds
end CT
/-- what stays where nothing was written stays -/
theorem Stab.below{h:Heap}{Φ:Heap→Prop}(w:WF h)(p:∀h',Fr [] h h'→Φ h'):Stab (fun x=>x<h.next) h Φ:=fun X h' hx f=>
  p h' ((Fr.refl (S:=[]) w).trans f w (by simp) (fun x m=>(hx x m).elim (fun q=>.inr (by omega)) .inr))
/-- a builder that is written to, since h0 -/
structure Ws(B b:Nat)(h0:Heap)(v0:V)(h:Heap)(v:V)(z:Str):Prop where
  w0:WF h0
  w:WF h
  d:Bd h b v z
  bw:Bw b v0 h0 h v
  lo0:∀x∈vb v0,B≤x
  lo:∀x∈vb v,B≤x
  hb:B≤b
  hB:B≤h0.next
  hp:0<B
section
variable {B b : Nat} {h0 h h1 : Heap} {v0 v : V} {z s : Str} {Φ : Heap → Prop}
theorem Ws.new(w:WF h)(d:Bd h b v z)(lo:∀x∈vb v,B≤x)(hb:B≤b)(hB:B≤h.next)(hp:0<B):Ws B b h v h v z:=⟨w,w,d,Bw.fr (Fr.refl w) w,lo,lo,hb,hB,hp⟩
theorem Ws.fr(a:Ws B b h0 v0 h v z)(f:Fr [] h h1):Ws B b h0 v0 h1 v z:=⟨a.w0,f.wf,a.d.fr a.w f,a.bw.trans a.w0 (Bw.fr f a.w),a.lo0,a.lo,a.hb,a.hB,a.hp⟩
theorem Ws.lo'(a:Ws B b h0 v0 h v z):∀x∈b::vb v0,B≤x:=by
  intro x m;rcases List.mem_cons.1 m with rfl|m
  ·exact a.hb
  ·exact a.lo0 x m
theorem Ws.stab(a:Ws B b h0 v0 h v z)(s:Stab (fun x=>x<B) h0 Φ):Stab (fun x=>x<B) h Φ:=s.fr a.w0 a.bw.1 fun x m=>.inl (by have:=a.lo' x m;omega)
theorem Ws.tb(a:Ws B b h0 v0 h v z)(T:Tb h0):Tb h:=T.fr a.bw.1 fun m=>by have:=a.lo' 0 m;have:=a.hp;omega
theorem Ws.write(a:Ws B b h0 v0 h v z)(hs:z.length+s.length≤70368744177664){K:V→Heap→Prop}
    (k:∀h' v',Ws B b h0 v0 h' v' (z++s)→K (.tup [.int .i64 (s.length:Int),.nili]) h'):OQ (go 27 [.ptr b 0,.str s] h) K:=by
  refine OQ_does (writeString_ok a.w a.d (by omega)) ?_;rintro u h' ⟨rfl,v',d',bw'⟩;refine k h' v' ⟨a.w0,bw'.1.wf,d',a.bw.trans a.w0 bw',a.lo0,fun x m=>?_,a.hb,a.hB,a.hp⟩;exact(bw'.2 x m).elim (a.lo x) fun q=>by have:=a.bw.1.next;have:=a.hB;omega
end
def WrN(a:Nd):Prop:=∀{B b:Nat}{h:Heap}{v:V}{z:Str},Ws B b h v h v z→Tb h→Stab (fun x=>x<B) h (fun h=>NdH h a)→a.ct.wds→z.length+a.ct.txt.length≤70368744177664→
  Does go 24 [.ptr b 0,.agg a.cells] h fun u h'=>u=.tup []∧∃v',Ws B b h v h' v' (z++a.ct.txt)
def WrL:NT→Prop
  |.nil=>True
  |.cons k tg ky at' tx va vc sub nx=>WrN ⟨k,tg,ky,at',tx,va,vc,sub⟩∧WrL nx
theorem Ws.since{B b:Nat}{h h1 h2:Heap}{v v2:V}{z z0:Str}(a:Ws B b h v h v z0)(f:Fr [] h h1)(c:Ws B b h1 v h2 v2 z):Ws B b h v h2 v2 z:=
  ⟨a.w0,c.w,c.d,(Bw.fr f a.w0).trans a.w0 c.bw,a.lo0,c.lo,a.hb,a.hB,a.hp⟩
theorem wr_text{a:Nd}(hk:a.k=2):WrN a:=by
  intro B b h v z W T st wd hz;obtain⟨k,tg,ky,at',tx,va,vc,sub⟩:=a;have hk:k=2:=hk;subst hk;have H:=st.now W.w;have one:=NdH.one H;obtain⟨h1,e_h1⟩:∃h1,h1=halloc h (⟨2,tg,ky,at',tx,va,vc,sub⟩:Nd).cells:=⟨_,rfl⟩;have F_h1:Fr [] h h1:=e_h1▸Fr.halloc W.w _;have o_h1:Own h1 h.next (⟨2,tg,ky,at',tx,va,vc,sub⟩:Nd).cells:=e_h1▸Own.new W.w _;have l0:hload1 h1 h.next 0=some (.int .u8 ((2:Nat):Int)):=o_h1.ld1 0;have l4:hload1 h1 h.next 4=some (.str tx):=o_h1.ld1 4;have e:(⟨2,tg,ky,at',tx,va,vc,sub⟩:Nd).ct.txt=quo tx:=by simp[Nd.ct,CT.txt]
  rw[e]at hz⊢;refine does_fn g24 rfl ?_;simp(maxSteps:=1000000) (disch:=omega) only[fn24,evs,↓reduceIte,Nat.reduceEqDiff,Nat.reduceAdd,Nat.reduceMul,Nat.reduceLeDiff,Nat.reduceLT,Int.reduceNeg,DF,eff,Nat.reduceSub,fwrap_i64,←e_h1,l0,l4,eq_true (show((2:Nat):Int)=2 from rfl)];refine OQ_does (quoted_ok ((W.fr F_h1).tb T) wd.1) ?_;rintro _ _ ⟨rfl,rfl⟩;simp(maxSteps:=1000000) (disch:=omega) only[evs,↓reduceIte,Nat.reduceEqDiff,Nat.reduceAdd,Nat.reduceMul,Nat.reduceLeDiff,Nat.reduceLT,Int.reduceNeg,DF,eff,Nat.reduceSub,fwrap_i64];refine(W.fr F_h1).write hz ?_;intro h2 v2 W2;simp(maxSteps:=1000000) (disch:=omega) only[evs,↓reduceIte,Nat.reduceEqDiff,Nat.reduceAdd,Nat.reduceMul,Nat.reduceLeDiff,Nat.reduceLT,Int.reduceNeg,DF,eff,Nat.reduceSub,fwrap_i64];exact⟨v2,W2⟩
def wrT:IC:=(.seq (.seq (.ops [⟨none,.p (.faddr 5) [.v 3],none⟩,⟨none,.ld 1 false (.l 0),none⟩,⟨none,.p .lenS [.l 0],none⟩,⟨none,.p (.ib .eql) [.l 0,.c (.int .i64 0)],some 50⟩]) (.cond (.v 50) (.seq (.ops [⟨none,.cf 27 [.v 0,.c (.str [47,62])],none⟩]) (.ret)) (.skip))) (.seq (.ops [⟨none,.cf 27 [.v 0,.c (.str [62])],none⟩]) (.seq (.seq (.ops [⟨none,.p (.faddr 5) [.v 3],none⟩,⟨none,.ld 1 false (.l 0),some 56⟩,⟨none,.p .lenS [.v 56],some 57⟩,⟨none,.p .mv [.c (.int .i64 0)],some 58⟩]) (.block 2 (.loop (.seq (.ops [⟨none,.p (.ib .lss) [.v 58,.v 57],some 59⟩]) (.seq (.cond (.v 59) (.skip) (.exit 2)) (.seq (.block 3 (.seq (.ops [⟨none,.p (.ixs 6) [.v 56,.v 58],none⟩,⟨none,.ld 6 true (.l 0),none⟩,⟨none,.al [(.int .u8 0),(.str []),(.str []),.nils,(.str []),.nils],some 7⟩,⟨none,.st 6 (.v 7) (.l 0),none⟩]) (.ops [⟨none,.ld 6 true (.v 7),none⟩,⟨none,.cf 24 [.v 0,.l 0],none⟩]))) (.ops [⟨none,.p (.ib .add) [.v 58,.c (.int .i64 1)],none⟩,⟨none,.p .mv [.l 0],some 58⟩]))))))) (.ops [⟨none,.p (.faddr 1) [.v 3],none⟩,⟨none,.ld 1 false (.l 0),none⟩,⟨none,.p (.sb .add) [.c (.str [60,47]),.l 0],none⟩,⟨none,.p (.sb .add) [.l 0,.c (.str [62])],none⟩,⟨none,.cf 27 [.v 0,.l 0],none⟩]))))
def wrA:IC:=(.seq (.seq (.ops [⟨none,.p (.faddr 3) [.v 3],none⟩,⟨none,.ld 1 false (.l 0),some 30⟩,⟨none,.p .lenS [.v 30],some 31⟩,⟨none,.p .mv [.c (.int .i64 0)],some 32⟩]) (.block 0 (.loop (.seq (.ops [⟨none,.p (.ib .lss) [.v 32,.v 31],some 33⟩]) (.seq (.cond (.v 33) (.skip) (.exit 0)) (.seq (.block 1 (.seq (.ops [⟨none,.p (.ixs 2) [.v 30,.v 32],none⟩,⟨none,.ld 2 true (.l 0),none⟩,⟨none,.al [(.str []),(.str [])],some 5⟩,⟨none,.st 2 (.v 5) (.l 0),none⟩]) (.dops [⟨none,.p .mv [.v 0],none⟩,⟨none,.p (.faddr 0) [.v 5],none⟩,⟨none,.ld 1 false (.l 0),none⟩,⟨none,.p (.sb .add) [.c (.str [32]),.l 0],none⟩,⟨none,.p (.sb .add) [.l 0,.c (.str [61])],none⟩,⟨none,.p (.faddr 1) [.v 5],none⟩,⟨none,.ld 1 false (.l 0),none⟩,⟨none,.cf 45 [.l 0],none⟩,⟨none,.p (.sb .add) [.l 3,.l 0],none⟩,⟨none,.cf 27 [.l 8,.l 0],none⟩] [] [0,0,2,6,14,0,32,96,254,511] [0,1,2,3,4,5,6,7,8,9] [(2,0,1),(6,0,0)] []))) (.ops [⟨none,.p (.ib .add) [.v 32,.c (.int .i64 1)],none⟩,⟨none,.p .mv [.l 0],some 32⟩]))))))) wrT)
def fn24x:IFn:=⟨2,.seq (.ops [⟨none,.bx (.v 1),some 3⟩]) (.seq (.seq (.ops [⟨none,.p (.faddr 0) [.v 3],none⟩,⟨none,.ld 1 false (.l 0),none⟩,⟨none,.p (.ib .eql) [.l 0,.c (.int .u8 2)],some 10⟩]) (.cond (.v 10) (.seq (.ops [⟨none,.p (.faddr 4) [.v 3],none⟩,⟨none,.ld 1 false (.l 0),none⟩,⟨none,.cf 45 [.l 0],none⟩,⟨none,.cf 27 [.v 0,.l 0],none⟩]) (.ret)) (.skip))) (.seq (.ops [⟨none,.p (.faddr 1) [.v 3],none⟩,⟨none,.ld 1 false (.l 0),none⟩,⟨none,.p (.sb .add) [.c (.str [60]),.l 0],none⟩,⟨none,.cf 27 [.v 0,.l 0],none⟩]) (.seq (.seq (.ops [⟨none,.p (.faddr 2) [.v 3],none⟩,⟨none,.ld 1 false (.l 0),none⟩,⟨none,.p (.sb .neq) [.l 0,.c (.str [])],some 23⟩]) (.cond (.v 23) (.ops [⟨none,.p (.faddr 2) [.v 3],none⟩,⟨none,.ld 1 false (.l 0),none⟩,⟨none,.p (.sb .add) [.c (.str [58]),.l 0],none⟩,⟨none,.cf 27 [.v 0,.l 0],none⟩]) (.skip))) wrA))),[],[0,1,3,5,7,10,23,30,31,32,33,50,56,57,58,59]⟩
/-- (*strings.Builder).String -/
theorem g24x:F.get 24=some fn24x:=rfl
set_option maxRecDepth 4000
theorem WrL.at':∀{t:NT}(i:Nat),WrL t→WrL (t.at' i)
  |.nil,0,_=>trivial
  |.nil,_+1,_=>trivial
  |.cons _ _ _ _ _ _ _ _ _,0,a=>a
  |.cons _ _ _ _ _ _ _ _ _,i+1,⟨_,g⟩=>WrL.at' i g
theorem NT.wds_at:∀{t:NT}(i:Nat),t.ct.wds→(t.at' i).ct.wds
  |.nil,0,_=>trivial
  |.nil,_+1,_=>trivial
  |.cons _ _ _ _ _ _ _ _ _,0,a=>a
  |.cons _ _ _ _ _ _ _ _ _,i+1,⟨_,_,_,g⟩=>NT.wds_at i g
theorem NT.at_0(t:NT):t.at' 0=t:=by cases t<;>rfl
section
variable {B b c : Nat} {h0 hh h1 h2 : Heap} {v0 v v1 v2 : V} {z z1 z2 : Str} {env : T V} {a : Nd} {Q : Ex → T V → Heap → Prop}
theorem Ws.re(W:Ws B b h0 v0 hh v z):Ws B b hh v hh v z:=Ws.new W.w W.d W.lo W.hb (Nat.le_trans W.hB W.bw.1.next) W.hp
theorem Ws.comp(W:Ws B b h0 v0 h1 v1 z1)(W2:Ws B b h1 v1 h2 v2 z2):Ws B b h0 v0 h2 v2 z2:=⟨W.w0,W2.w,W2.d,W.bw.trans W.w0 W2.bw,W.lo0,W2.lo,W.hb,W.hB,W.hp⟩
/-- how an element ends -/
def tlT(a:Nd):Str:=if a.sub.len=0 then[47,62]else 62::a.sub.ct.txt++60::47::a.tg++[62]
theorem wrT_ok(X:Ws B b h0 v0 hh v z)(Tb0:Tb h0)(oc:Own h0 c a.cells)(hc:c∉b::vb v0)(st:Stab (fun x=>x<B) h0 fun h=>NdH h a)(rec:WrL a.sub)(wd:a.sub.ct.wds)
    (g0:env.get 0=some (.ptr b 0)) (g3:env.get 3=some (.ptr c 0)) (hz:z.length+(tlT a).length≤70368744177664)
    (k1:∀env' h' v',Ws B b h0 v0 h' v' (z++tlT a)→Q .norm env' h') (k2:∀env' h' v',Ws B b h0 v0 h' v' (z++tlT a)→Q .ret env' h'):W go wrT env hh Q:=by
  have oc':∀{h2 v2 z2},Ws B b h0 v0 h2 v2 z2→Own h2 c a.cells:=fun W2=>W2.bw.1.own _ _ hc oc;have H:=(X.stab st).now X.w;have l5:hload1 hh c 5=some a.vc:=(oc' X).ld1 5;have sl:Sl hh 6 a.vc a.sub.len a.sub.cells:=H.2.2.2.1;have lb:a.sub.len≤4096:=H.2.2.2.2.1;by_cases c0:a.sub.len=0
  ·have e:tlT a=[47,62]:=if_pos c0;rw[e]at hz k2;simp(maxSteps:=1000000) (disch:=omega) only[evs,↓reduceIte,Nat.reduceEqDiff,Nat.reduceAdd,Nat.reduceMul,Nat.reduceLeDiff,Nat.reduceLT,Int.reduceNeg,DF,eff,Nat.reduceSub,fwrap_i64,wrT,g3,g0,l5,sl.len,eq_true (show(a.sub.len:Int)=0 by omega)];refine X.write hz ?_;intro h2 v2 W2;simp(maxSteps:=1000000) (disch:=omega) only[evs,↓reduceIte,Nat.reduceEqDiff,Nat.reduceAdd,Nat.reduceMul,Nat.reduceLeDiff,Nat.reduceLT,Int.reduceNeg,DF,eff,Nat.reduceSub,fwrap_i64];exact k2 _ _ _ W2
  ·have e:tlT a=62::a.sub.ct.txt++60::47::a.tg++[62]:=if_neg c0;rw[e]at hz k1;simp only[List.length_append,List.length_cons,List.length_nil]at hz;simp(maxSteps:=1000000) (disch:=omega) only[evs,↓reduceIte,Nat.reduceEqDiff,Nat.reduceAdd,Nat.reduceMul,Nat.reduceLeDiff,Nat.reduceLT,Int.reduceNeg,DF,eff,Nat.reduceSub,fwrap_i64,wrT,g3,g0,l5,sl.len,show¬(a.sub.len:Int)=0 by omega];refine X.write (s:=[62]) (by simp only[List.length_cons,List.length_nil];omega) ?_;intro h2 v2 W2;have l52:hload1 h2 c 5=some a.vc:=(oc' W2).ld1 5;have sl2:Sl h2 6 a.vc a.sub.len a.sub.cells:=((W2.stab st).now W2.w).2.2.2.1;simp(maxSteps:=1000000) (disch:=omega) only[evs,↓reduceIte,Nat.reduceEqDiff,Nat.reduceAdd,Nat.reduceMul,Nat.reduceLeDiff,Nat.reduceLT,Int.reduceNeg,DF,eff,Nat.reduceSub,fwrap_i64,g3,g0,l52,sl2.len];refine W_loop (fun n env hh=>∃(i:Nat)(v':V)(z':Str),Ws B b h0 v0 hh v' z'∧env.get 58=some (.int .i64 i)∧env.get 57=some (.int .i64 a.sub.len)∧env.get 56=some a.vc∧env.get 0=some (.ptr b 0)∧env.get 3=some (.ptr c 0)∧i≤a.sub.len∧
     z'++(a.sub.at' i).ct.txt=z++62::a.sub.ct.txt∧n=a.sub.len-i) a.sub.len (by omega) ?_ ?_
   ·exact⟨0,v2,_,W2,(by simp[T.get_set]),(by simp[T.get_set]),(by simp[T.get_set]),(by simp[T.get_set,g0]),(by simp[T.get_set,g3]),by omega,by rw[NT.at_0];simp,rfl⟩
   ·rintro n env hh ⟨i,v',z',W',g58,g57,g56,g0,g3,hi,e,rfl⟩;by_cases ci:i<a.sub.len
    ·obtain⟨x,nx,e1,e2,e3⟩:=a.sub.nd i ci;have H':=(W'.stab st).now W'.w;have S':Sl hh 6 a.vc a.sub.len a.sub.cells:=H'.2.2.2.1;obtain⟨b1,o1,p1,p2⟩:=S'.ix6 ci e2;have sx:Stab (fun x=>x<B) h0 fun h=>NdH h x:=st.imp fun h q=>NH.nd (show NH h a.sub from q.2.2.2.2.2.1) e1;have nx1:=(W'.stab sx).now W'.w;obtain⟨h3,e_h3⟩:∃h3,h3=halloc hh [.int .u8 0,.str [],.str [],.nils,.str [],.nils]:=⟨_,rfl⟩;have F_h3:Fr [] hh h3:=e_h3▸Fr.halloc W'.w _;have o_h3:Own h3 hh.next [.int .u8 0,.str [],.str [],.nils,.str [],.nils]:=e_h3▸Own.new W'.w _;simp(maxSteps:=1000000) (disch:=omega) only[evs,↓reduceIte,Nat.reduceEqDiff,Nat.reduceAdd,Nat.reduceMul,Nat.reduceLeDiff,Nat.reduceLT,Int.reduceNeg,DF,eff,Nat.reduceSub,fwrap_i64,g58,g57,g56,g0,g3,show(i:Int)<a.sub.len by omega,p1,p2.2.2.2.2.2.2,←e_h3];refine store_step (c':=x.cells) F_h3.wf o_h3 rfl nx1.one rfl ?_;intro h4 q4 F4 n4;have F04:Fr [] hh h4:=F_h3.fresh F4 W'.w (Nat.le_refl _);have lx:hload h4 hh.next 0 6=some x.cells:=by rw[q4.ld];rfl
     have W4:=W'.fr F04;have Rx:=rec.at' i;rw[e1]at Rx;have wx:=NT.wds_at i wd;rw[e1]at wx;have ex:(a.sub.at' i).ct.txt=x.ct.txt++nx.ct.txt:=by rw[e1];simp[NT.ct,Nd.ct,CT.txt]
     rw[ex]at e;have el:=congrArg List.length e;simp only[List.length_append,List.length_cons]at el;simp(maxSteps:=1000000) (disch:=omega) only[evs,↓reduceIte,Nat.reduceEqDiff,Nat.reduceAdd,Nat.reduceMul,Nat.reduceLeDiff,Nat.reduceLT,Int.reduceNeg,DF,eff,Nat.reduceSub,fwrap_i64,g58,g57,g56,g0,g3,lx];refine OQ_does (Rx.1 W4.re (W4.tb Tb0) (W4.stab sx) ⟨wx.1,wx.2.1,wx.2.2.1,trivial⟩ (show z'.length+x.ct.txt.length≤70368744177664 by omega)) ?_;rintro _ h5 ⟨rfl,v5,W5⟩;simp(maxSteps:=1000000) (disch:=omega) only[evs,↓reduceIte,Nat.reduceEqDiff,Nat.reduceAdd,Nat.reduceMul,Nat.reduceLeDiff,Nat.reduceLT,Int.reduceNeg,DF,eff,Nat.reduceSub,fwrap_i64,g58,g57,g56,g0,g3];refine(roundQ_norm _ _ _).2 ⟨a.sub.len-(i+1),by omega,i+1,v5,_,W4.comp W5,(by simp[T.get_set]),(by simp[T.get_set,g57]),(by simp[T.get_set,g56]),(by simp[T.get_set,g0]),(by simp[T.get_set,g3]),by omega,by rw[e3,List.append_assoc];exact e,rfl⟩
     done
    ·have l1:hload1 hh c 1=some (.str a.tg):=(oc' W').ld1 1;rw[NT.at_end _ _ (by omega)]at e;have e:z'=z++62::a.sub.ct.txt:=by simpa[NT.ct,CT.txt]using e
     subst e;simp(maxSteps:=1000000) (disch:=omega) only[evs,↓reduceIte,Nat.reduceEqDiff,Nat.reduceAdd,Nat.reduceMul,Nat.reduceLeDiff,Nat.reduceLT,Int.reduceNeg,DF,eff,Nat.reduceSub,fwrap_i64,g58,g57,g56,g0,g3,show¬(i:Int)<a.sub.len by omega,l1,aP_sba [60,47] a.tg (by simp only[List.length_cons,List.length_nil];omega),aP_sba (60::47::a.tg) [62] (by simp only[List.length_append,List.length_cons,List.length_nil];omega)];refine W'.write (s:=60::47::(a.tg++[62])) (by simp only[List.length_append,List.length_cons,List.length_nil];omega) ?_;intro h6 v6 W6;simp(maxSteps:=1000000) (disch:=omega) only[evs,↓reduceIte,Nat.reduceEqDiff,Nat.reduceAdd,Nat.reduceMul,Nat.reduceLeDiff,Nat.reduceLT,Int.reduceNeg,DF,eff,Nat.reduceSub,fwrap_i64];refine k1 _ _ v6 ?_;simpa using W6
end
set_option maxRecDepth 4000
theorem take_flat{α β:Type}{f:α→List β}{l:List α}{i:Nat}{x:α}(h:l[i]? =some x):(l.take (i+1)).flatMap f=(l.take i).flatMap f++f x:=by
  rw[List.take_add_one,h];simp
theorem take_le{α β:Type}(f:α→List β)(l:List α)(i:Nat):((l.take i).flatMap f).length≤(l.flatMap f).length:=by
  conv=>rhs;rw[←List.take_append_drop i l]
  rw[List.flatMap_append,List.length_append];omega
section
variable {B b c : Nat} {h0 hh : Heap} {v0 v : V} {z : Str} {env : T V} {a : Nd} {Q : Ex → T V → Heap → Prop}
theorem wrA_ok(X:Ws B b h0 v0 hh v z)(Tb0:Tb h0)(oc:Own h0 c a.cells)(hc:c∉b::vb v0)(st:Stab (fun x=>x<B) h0 fun h=>NdH h a)(rec:WrL a.sub)(wa:∀p∈a.at',p.2∈words)(wd:a.sub.ct.wds)
    (g0:env.get 0=some (.ptr b 0)) (g3:env.get 3=some (.ptr c 0)) (hz:z.length+(a.at'.flatMap attT).length+(tlT a).length≤70368744177664)
    (k1:∀env' h' v',Ws B b h0 v0 h' v' (z++a.at'.flatMap attT++tlT a)→Q .norm env' h') (k2:∀env' h' v',Ws B b h0 v0 h' v' (z++a.at'.flatMap attT++tlT a)→Q .ret env' h'):W go wrA env hh Q:=by
  have oc':∀{h2 v2 z2},Ws B b h0 v0 h2 v2 z2→Own h2 c a.cells:=fun W2=>W2.bw.1.own _ _ hc oc;have H:=(X.stab st).now X.w;have l3:hload1 hh c 3=some a.va:=(oc' X).ld1 3;have rr:Recs attC 2 hh a.va a.at':=H.2.1;have la:a.at'.length≤4096:=H.2.2.1;simp(maxSteps:=1000000) (disch:=omega) only[evs,↓reduceIte,Nat.reduceEqDiff,Nat.reduceAdd,Nat.reduceMul,Nat.reduceLeDiff,Nat.reduceLT,Int.reduceNeg,DF,eff,Nat.reduceSub,fwrap_i64,wrA,g3,g0,l3,rr.len];refine W_loop (fun n env hh=>∃(i:Nat)(v':V),Ws B b h0 v0 hh v' (z++(a.at'.take i).flatMap attT)∧env.get 32=some (.int .i64 i)∧env.get 31=some (.int .i64 a.at'.length)∧env.get 30=some a.va∧env.get 0=some (.ptr b 0)∧env.get 3=some (.ptr c 0)∧i≤a.at'.length∧n=a.at'.length-i) a.at'.length (by omega) ?_ ?_
  ·exact⟨0,v,by simpa using X,(by simp[T.get_set]),(by simp[T.get_set]),(by simp[T.get_set]),(by simp[T.get_set,g0]),(by simp[T.get_set,g3]),by omega,rfl⟩
  ·rintro n env hh ⟨i,v',W',g32,g31,g30,g0,g3,hi,rfl⟩;by_cases ci:i<a.at'.length
   ·have R':Recs attC 2 hh a.va a.at':=((W'.stab st).now W'.w).2.1;obtain⟨b1,o1,p,p1,_,p3,p4⟩:=R'.ix attC_len .i64 (i:Int) (by omega) (by omega);rw[Int.toNat_natCast]at p4;have lt:=take_le attT a.at' i;have lt2:=take_le attT a.at' (i+1);rw[take_flat p4,List.length_append]at lt2;have lp:(attT p).length=p.1.length+2+(quo p.2).length:=by simp[attT];omega
    obtain⟨h1,e_h1⟩:∃h1,h1=halloc hh [.str [],.str []]:=⟨_,rfl⟩;have F_h1:Fr [] hh h1:=e_h1▸Fr.halloc W'.w _;have o_h1:Own h1 hh.next [.str [],.str []]:=e_h1▸Own.new W'.w _;simp(maxSteps:=1000000) (disch:=omega) only[evs,↓reduceIte,Nat.reduceEqDiff,Nat.reduceAdd,Nat.reduceMul,Nat.reduceLeDiff,Nat.reduceLT,Int.reduceNeg,DF,eff,Nat.reduceSub,fwrap_i64,g32,g31,g30,g0,g3,show(i:Int)<a.at'.length by omega,p1,p3,←e_h1];refine store_step (c':=attC p) F_h1.wf o_h1 rfl rfl rfl ?_;intro h2 q2 F2 n2;have F02:Fr [] hh h2:=F_h1.fresh F2 W'.w (Nat.le_refl _);have W2:=W'.fr F02;have s0:hload1 h2 hh.next 0=some (.str p.1):=q2.ld1 0;have s1:hload1 h2 hh.next 1=some (.str p.2):=q2.ld1 1;simp(maxSteps:=1000000) (disch:=omega) only[evs,↓reduceIte,Nat.reduceEqDiff,Nat.reduceAdd,Nat.reduceMul,Nat.reduceLeDiff,Nat.reduceLT,Int.reduceNeg,DF,eff,Nat.reduceSub,fwrap_i64,g0,s0,s1,aP_sba [32] p.1 (by simp only[List.length_cons,List.length_nil];omega),aP_sba (32::p.1) [61] (by simp only[List.length_cons,List.length_nil];omega)];refine OQ_does (quoted_ok (W2.tb Tb0) (wa p (List.mem_of_getElem? p4))) ?_;rintro _ _ ⟨rfl,rfl⟩;simp(maxSteps:=1000000) (disch:=omega) only[evs,↓reduceIte,Nat.reduceEqDiff,Nat.reduceAdd,Nat.reduceMul,Nat.reduceLeDiff,Nat.reduceLT,Int.reduceNeg,DF,eff,Nat.reduceSub,fwrap_i64,g0,s0,s1,aP_sba (32::(p.1++[61])) (quo p.2) (by simp only[List.length_cons,List.length_append,List.length_nil];omega)];refine W2.write (s:=32::(p.1++[61]++quo p.2)) (by simp only[List.length_cons,List.length_append,List.length_nil];omega) ?_;intro h3 v3 W3;simp(maxSteps:=1000000) (disch:=omega) only[evs,↓reduceIte,Nat.reduceEqDiff,Nat.reduceAdd,Nat.reduceMul,Nat.reduceLeDiff,Nat.reduceLT,Int.reduceNeg,DF,eff,Nat.reduceSub,fwrap_i64,g0,s0,s1,g32,g31,g30,g3];have e:z++(a.at'.take (i+1)).flatMap attT=z++(a.at'.take i).flatMap attT++32::(p.1++[61]++quo p.2):=by
      rw[take_flat p4];simp[attT]
    refine(roundQ_norm _ _ _).2 ⟨a.at'.length-(i+1),by omega,i+1,v3,by rw[e];exact W3,(by simp[T.get_set]),(by simp[T.get_set,g31]),(by simp[T.get_set,g30]),(by simp[T.get_set,g0]),(by simp[T.get_set,g3]),by omega,rfl⟩
    done
   ·simp(maxSteps:=1000000) (disch:=omega) only[evs,↓reduceIte,Nat.reduceEqDiff,Nat.reduceAdd,Nat.reduceMul,Nat.reduceLeDiff,Nat.reduceLT,Int.reduceNeg,DF,eff,Nat.reduceSub,fwrap_i64,g32,g31,g30,g0,g3,show¬(i:Int)<a.at'.length by omega];rw[List.take_of_length_le (by omega)]at W';exact wrT_ok W' Tb0 oc hc st rec wd (by simp[T.get_set,g0]) (by simp[T.get_set,g3]) (by rw[List.length_append];omega) k1 k2
end
theorem wr_elem{a:Nd}(hk:a.k≠2)(rec:WrL a.sub):WrN a:=by
  intro B b h v z X Tb0 st wd hz;have H:=st.now X.w;have one:=NdH.one H;have hk8:a.k<256:=H.1;obtain⟨h1,e_h1⟩:∃h1,h1=halloc h a.cells:=⟨_,rfl⟩;have F_h1:Fr [] h h1:=e_h1▸Fr.halloc X.w _;have o_h1:Own h1 h.next a.cells:=e_h1▸Own.new X.w _;have X1:=X.fr F_h1;have Y1:=X1.re;have st1:=X1.stab st;have T1:=X1.tb Tb0;have hc:h.next∉b::vb v:=fun m=>by
    rcases List.mem_cons.1 m with e|m
    ·have:=X.d.lt X.w;omega
    ·have:=X.d.2.2.1.lt X.w _ m;omega
  have e:a.ct.txt=60::a.tg++(if a.ky=[]then[]else 58::a.ky)++a.at'.flatMap attT++tlT a:=by
    obtain⟨k,tg,ky,at',tx,va,vc,sub⟩:=a;simp only[Nd.ct,CT.txt,tlT,NT.ct_len];rw[if_neg hk,List.append_nil]
  rw[e]at hz⊢;simp only[List.length_append,List.length_cons]at hz;have l0:hload1 h1 h.next 0=some (.int .u8 (a.k:Int)):=o_h1.ld1 0;have l1:hload1 h1 h.next 1=some (.str a.tg):=o_h1.ld1 1;refine does_fn g24x rfl ?_;simp(maxSteps:=1000000) (disch:=omega) only[evs,↓reduceIte,Nat.reduceEqDiff,Nat.reduceAdd,Nat.reduceMul,Nat.reduceLeDiff,Nat.reduceLT,Int.reduceNeg,DF,eff,Nat.reduceSub,fwrap_i64,fn24x,←e_h1,l0,l1,show¬(a.k:Int)=2 by omega,aP_sba [60] a.tg (by simp only[List.length_cons,List.length_nil];omega)];refine Y1.write (s:=60::a.tg) (by simp only[List.length_cons];omega) ?_;intro h2 v2 W2;have o2:Own h2 h.next a.cells:=W2.bw.1.own _ _ hc o_h1;have l2:hload1 h2 h.next 2=some (.str a.ky):=o2.ld1 2;by_cases c:a.ky=[]
  ·have q:aP (.sb .neq) [.str a.ky,.str []]=some (.bool false):=by rw[c];rfl
   rw[if_pos c]at hz;rw[if_pos c,List.append_nil];simp(maxSteps:=1000000) (disch:=omega) only[evs,↓reduceIte,Nat.reduceEqDiff,Nat.reduceAdd,Nat.reduceMul,Nat.reduceLeDiff,Nat.reduceLT,Int.reduceNeg,DF,eff,Nat.reduceSub,fwrap_i64,l2,q];refine wrA_ok W2 T1 o_h1 hc st1 rec wd.2.1 wd.2.2.1 (by simp[T.get_set]) (by simp[T.get_set]) (by simp only[List.length_append,List.length_cons];simp only[List.length_nil]at hz;omega) ?_ ?_
   ·intro env' h' v' W';simp(maxSteps:=1000000) (disch:=omega) only[evs,↓reduceIte,Nat.reduceEqDiff,Nat.reduceAdd,Nat.reduceMul,Nat.reduceLeDiff,Nat.reduceLT,Int.reduceNeg,DF,eff,Nat.reduceSub,fwrap_i64];exact⟨v',by simpa using X.since F_h1 W'⟩
   ·intro env' h' v' W';simp(maxSteps:=1000000) (disch:=omega) only[evs,↓reduceIte,Nat.reduceEqDiff,Nat.reduceAdd,Nat.reduceMul,Nat.reduceLeDiff,Nat.reduceLT,Int.reduceNeg,DF,eff,Nat.reduceSub,fwrap_i64];exact⟨v',by simpa using X.since F_h1 W'⟩
  ·have q:aP (.sb .neq) [.str a.ky,.str []]=some (.bool true):=by
     rw[aP_sbn];cases h:a.ky with
     |nil=>exact absurd h c
     |cons x l=>rfl
   rw[if_neg c]at hz;rw[if_neg c];simp only[List.length_cons]at hz;simp(maxSteps:=1000000) (disch:=omega) only[evs,↓reduceIte,Nat.reduceEqDiff,Nat.reduceAdd,Nat.reduceMul,Nat.reduceLeDiff,Nat.reduceLT,Int.reduceNeg,DF,eff,Nat.reduceSub,fwrap_i64,l2,q,aP_sba [58] a.ky (by simp only[List.length_cons,List.length_nil];omega)];refine W2.write (s:=58::a.ky) (by simp only[List.length_append,List.length_cons];omega) ?_;intro h3 v3 W3;simp(maxSteps:=1000000) (disch:=omega) only[evs,↓reduceIte,Nat.reduceEqDiff,Nat.reduceAdd,Nat.reduceMul,Nat.reduceLeDiff,Nat.reduceLT,Int.reduceNeg,DF,eff,Nat.reduceSub,fwrap_i64];refine wrA_ok W3 T1 o_h1 hc st1 rec wd.2.1 wd.2.2.1 (by simp[T.get_set]) (by simp[T.get_set]) (by simp only[List.length_append,List.length_cons];omega) ?_ ?_
   ·intro env' h' v' W';simp(maxSteps:=1000000) (disch:=omega) only[evs,↓reduceIte,Nat.reduceEqDiff,Nat.reduceAdd,Nat.reduceMul,Nat.reduceLeDiff,Nat.reduceLT,Int.reduceNeg,DF,eff,Nat.reduceSub,fwrap_i64];exact⟨v',by simpa using X.since F_h1 W'⟩
   ·intro env' h' v' W';simp(maxSteps:=1000000) (disch:=omega) only[evs,↓reduceIte,Nat.reduceEqDiff,Nat.reduceAdd,Nat.reduceMul,Nat.reduceLeDiff,Nat.reduceLT,Int.reduceNeg,DF,eff,Nat.reduceSub,fwrap_i64];exact⟨v',by simpa using X.since F_h1 W'⟩
theorem wr_all:∀t:NT,WrL t
  |.nil=>trivial
  |.cons k tg ky at' tx va vc sub nx=>⟨by
      by_cases hk:k=2
      ·exact wr_text hk
      ·exact wr_elem hk (wr_all sub),wr_all nx⟩
theorem write_ok(a:Nd):WrN a:=by
  by_cases hk:a.k=2
  ·exact wr_text hk
  ·exact wr_elem hk (wr_all a.sub)
theorem text_ok{h:Heap}{a:Nd}(w:WF h)(Tb0:Tb h)(hp:0<h.next)(ha:NdH h a)(wd:a.ct.wds)(g:Good a.ct)(hl:a.ct.txt.length≤1099511627776):
    Does go 11 [.agg a.cells] h fun u h'=>u=.tup [.str a.ct.txt,.int .i64 0]∧Fr [] h h':=by
  have one:=ha.one;obtain⟨h1,e_h1⟩:∃h1,h1=halloc h a.cells:=⟨_,rfl⟩;have F_h1:Fr [] h h1:=e_h1▸Fr.halloc w _;have o_h1:Own h1 h.next a.cells:=e_h1▸Own.new w _;have lx:hload h1 h.next 0 6=some a.cells:=by rw[o_h1.ld];rfl
  refine does_fn g11 rfl ?_;simp(maxSteps:=1000000) (disch:=omega) only[fn11,evs,↓reduceIte,Nat.reduceEqDiff,Nat.reduceAdd,Nat.reduceMul,Nat.reduceLeDiff,Nat.reduceLT,Int.reduceNeg,DF,eff,Nat.reduceSub,fwrap_i64,←e_h1,lx];refine OQ_does (check_ok F_h1.wf (ha.fr F_h1) g) ?_;rintro _ h2 ⟨rfl,F2⟩;have F02:=F_h1.then F2;obtain⟨d3,F3⟩:=Bd.new F2.wf;obtain⟨h3,e3⟩:∃h3,h3=htag (halloc h2 [.nilp,.nils]) h2.next 72 2:=⟨_,rfl⟩;rw[←e3]at d3 F3;have F03:=F02.then F3;have lx3:hload h3 h.next 0 6=some a.cells:=by rw[((F2.then F3).get o_h1).ld];rfl
  have n2:=F02.next;have X:Ws h2.next h2.next h3 .nils h3 .nils []:=Ws.new F3.wf d3 (by simp[vb]) (Nat.le_refl _) F3.next (by omega);have T3:Tb h3:=Tb0.fr F03 (by simp);have st:Stab (fun x=>x<h2.next) h3 fun h=>NdH h a:=(Stab.below F02.wf fun h' f=>ha.fr (F02.then f)).fr0 F02.wf F3;simp(maxSteps:=1000000) (disch:=omega) only[evs,↓reduceIte,Nat.reduceEqDiff,Nat.reduceAdd,Nat.reduceMul,Nat.reduceLeDiff,Nat.reduceLT,Int.reduceNeg,DF,eff,Nat.reduceSub,fwrap_i64,op_ux,ux_some,ux_alt,List.length_cons,List.length_nil,←e3,lx3];refine OQ_does (write_ok a X T3 st wd (by simp only[List.length_nil];omega)) ?_;rintro _ h4 ⟨rfl,v4,W4⟩;simp(maxSteps:=1000000) (disch:=omega) only[evs,↓reduceIte,Nat.reduceEqDiff,Nat.reduceAdd,Nat.reduceMul,Nat.reduceLeDiff,Nat.reduceLT,Int.reduceNeg,DF,eff,Nat.reduceSub,fwrap_i64];refine OQ_does (builderString_ok W4.w W4.d (by simp only[List.nil_append];omega)) ?_;rintro _ h5 ⟨rfl,F5⟩;simp(maxSteps:=1000000) (disch:=omega) only[evs,↓reduceIte,Nat.reduceEqDiff,Nat.reduceAdd,Nat.reduceMul,Nat.reduceLeDiff,Nat.reduceLT,Int.reduceNeg,DF,eff,Nat.reduceSub,fwrap_i64];have F35:Fr (h2.next::vb v4) h3 h5:=W4.bw.1.trans F5 F3.wf (fun x m=>.inl (by simp[vb]at m;simp[m])) (fun x m=>.inl m);have F45:Fr [] h2 h5:=F3.trans F35 F2.wf (by simp) (fun x m=>.inr (by
    rcases List.mem_cons.1 m with rfl|m
    ·exact Nat.le_refl _
    ·exact W4.lo x m))
  exact F02.then F45
theorem text_bad{h:Heap}{a:Nd}(w:WF h)(ha:NdH h a)(bad:NT.count a.k a.tg a.ky a.at' a.tx a.sub=0):Does go 11 [.agg a.cells] h fun u h'=>u=.tup [.str [],.int .i64 14]∧Fr [] h h':=by
  have one:=ha.one;obtain⟨h1,e_h1⟩:∃h1,h1=halloc h a.cells:=⟨_,rfl⟩;have F_h1:Fr [] h h1:=e_h1▸Fr.halloc w _;have o_h1:Own h1 h.next a.cells:=e_h1▸Own.new w _;have lx:hload h1 h.next 0 6=some a.cells:=by rw[o_h1.ld];rfl
  refine does_fn g11 rfl ?_;simp(maxSteps:=1000000) (disch:=omega) only[fn11,evs,↓reduceIte,Nat.reduceEqDiff,Nat.reduceAdd,Nat.reduceMul,Nat.reduceLeDiff,Nat.reduceLT,Int.reduceNeg,DF,eff,Nat.reduceSub,fwrap_i64,←e_h1,lx];refine OQ_does (ncheck_ok F_h1.wf (ha.fr F_h1)) ?_;rintro _ h2 ⟨rfl,F2⟩;rw[if_pos bad];simp(maxSteps:=1000000) (disch:=omega) only[evs,↓reduceIte,Nat.reduceEqDiff,Nat.reduceAdd,Nat.reduceMul,Nat.reduceLeDiff,Nat.reduceLT,Int.reduceNeg,DF,eff,Nat.reduceSub,fwrap_i64];exact F_h1.then F2
/-- a row's line -/
def lineT(p:Str)(r:CR)(t:Str):Str:=p++32::dec r.key.toNat++32::decI r.top++32::decI r.sz++32::t++[10]
set_option maxRecDepth 4000
section
variable {h : Heap} {p t : Str} {r : Rw} {K : Nat}
theorem cat(a b:Str)(n:Nat)(ha:a.length≤n)(h:n+b.length<9223372036854775808):∃s,s=a++b∧aP (.sb .add) [.str a,.str b]=some (.str s)∧s.length≤n+b.length:=
  ⟨_,rfl,aP_sba a b (by omega),by rw[List.length_append];omega⟩
theorem line_ok(w:WF h)(hk:r.key=(K:Int))(hK:K<18446744073709551616)(ht:R64 r.top)(hs:R64 r.sz)(lp:p.length≤8)(lt:t.length≤1099511627776):
    Does go 12 [.str p,.agg r.cells,.str t] h fun u h'=>u=.str (lineT p r.c t)∧Fr [] h h':=by
  obtain⟨h1,e_h1⟩:∃h1,h1=halloc h r.cells:=⟨_,rfl⟩;have F_h1:Fr [] h h1:=e_h1▸Fr.halloc w _;have o_h1:Own h1 h.next r.cells:=e_h1▸Own.new w _;have t0:hload1 h1 h.next 0=some (.int .u64 (K:Int)):=by rw[←hk];exact o_h1.ld1 0
  have t1:hload1 h1 h.next 1=some (.int .i64 r.top):=o_h1.ld1 1;have t2:hload1 h1 h.next 2=some (.int .i64 r.sz):=o_h1.ld1 2;have d0:=dec_len20 hK;have d1:=decI_len ht;have d2:=decI_len hs;obtain⟨s1,e1,q1,l1⟩:=cat p [32] 8 lp (by decide);obtain⟨s2,e2,q2,l2⟩:=cat s1 (dec K) _ l1 (by simp only[List.length_cons,List.length_nil];omega);obtain⟨s3,e3,q3,l3⟩:=cat s2 [32] _ l2 (by simp only[List.length_cons,List.length_nil];omega);obtain⟨s4,e4,q4,l4⟩:=cat s3 (decI r.top) _ l3 (by simp only[List.length_cons,List.length_nil];omega);obtain⟨s5,e5,q5,l5⟩:=cat s4 [32] _ l4 (by simp only[List.length_cons,List.length_nil];omega);obtain⟨s6,e6,q6,l6⟩:=cat s5 (decI r.sz) _ l5 (by simp only[List.length_cons,List.length_nil];omega);obtain⟨s7,e7,q7,l7⟩:=cat s6 [32] _ l6 (by simp only[List.length_cons,List.length_nil];omega);obtain⟨s8,e8,q8,l8⟩:=cat s7 t _ l7 (by simp only[List.length_cons,List.length_nil];omega);obtain⟨s9,e9,q9,l9⟩:=cat s8 [10] _ l8 (by simp only[List.length_cons,List.length_nil];omega);have eT:lineT p r.c t=s9:=by
    rw[e9,e8,e7,e6,e5,e4,e3,e2,e1];simp[lineT,Rw.c,hk]
  refine does_fn g12 rfl ?_;simp(maxSteps:=1000000) (disch:=omega) only[fn12,evs,↓reduceIte,Nat.reduceEqDiff,Nat.reduceAdd,Nat.reduceMul,Nat.reduceLeDiff,Nat.reduceLT,Int.reduceNeg,DF,eff,Nat.reduceSub,fwrap_i64,←e_h1,t0,t1,t2,q1];refine OQ_does (natural_ok K hK) ?_;rintro _ _ ⟨rfl,rfl⟩;simp(maxSteps:=1000000) (disch:=omega) only[evs,↓reduceIte,Nat.reduceEqDiff,Nat.reduceAdd,Nat.reduceMul,Nat.reduceLeDiff,Nat.reduceLT,Int.reduceNeg,DF,eff,Nat.reduceSub,fwrap_i64,t0,t1,t2,q2,q3];refine OQ_does (decimal_ok ht) ?_;rintro _ _ ⟨rfl,rfl⟩;simp(maxSteps:=1000000) (disch:=omega) only[evs,↓reduceIte,Nat.reduceEqDiff,Nat.reduceAdd,Nat.reduceMul,Nat.reduceLeDiff,Nat.reduceLT,Int.reduceNeg,DF,eff,Nat.reduceSub,fwrap_i64,t0,t1,t2,q4,q5];refine OQ_does (decimal_ok hs) ?_;rintro _ _ ⟨rfl,rfl⟩;simp(maxSteps:=1000000) (disch:=omega) only[evs,↓reduceIte,Nat.reduceEqDiff,Nat.reduceAdd,Nat.reduceMul,Nat.reduceLeDiff,Nat.reduceLT,Int.reduceNeg,DF,eff,Nat.reduceSub,fwrap_i64,t0,t1,t2,q6,q7,q8,q9];exact⟨by rw[eT],F_h1⟩
theorem swrite_ok(w:WF h)(Tb0:Tb h)(hp:0<h.next)(ha:RwH h r)(wd:r.nd.ct.wds)(g:Good r.nd.ct)(hk:r.key=(K:Int))(hK:K<18446744073709551616)(ht:R64 r.top)(hs:R64 r.sz)(lp:p.length≤8)(lt:r.nd.ct.txt.length≤1099511627776):
    Does go 29 [.str p,.agg r.cells] h fun u h'=>u=.tup [.str (lineT p r.c r.nd.ct.txt),.int .i64 0]∧Fr [] h h':=by
  obtain⟨h1,e_h1⟩:∃h1,h1=halloc h r.cells:=⟨_,rfl⟩;have F_h1:Fr [] h h1:=e_h1▸Fr.halloc w _;have o_h1:Own h1 h.next r.cells:=e_h1▸Own.new w _;have t0:hload1 h1 h.next 0=some (.int .u64 (K:Int)):=by rw[←hk];exact o_h1.ld1 0
  have t1:hload1 h1 h.next 1=some (.int .i64 r.top):=o_h1.ld1 1;have t2:hload1 h1 h.next 2=some (.int .i64 r.sz):=o_h1.ld1 2;have t3:hload h1 h.next 3 6=some r.nd.cells:=by rw[o_h1.ld];rfl
  have d0:=dec_len20 hK;have d1:=decI_len ht;have d2:=decI_len hs;obtain⟨s1,e1,q1,l1⟩:=cat p [32] 8 lp (by decide);obtain⟨s2,e2,q2,l2⟩:=cat s1 (dec K) _ l1 (by simp only[List.length_cons,List.length_nil];omega);obtain⟨s3,e3,q3,l3⟩:=cat s2 [32] _ l2 (by simp only[List.length_cons,List.length_nil];omega);obtain⟨s4,e4,q4,l4⟩:=cat s3 (decI r.top) _ l3 (by simp only[List.length_cons,List.length_nil];omega);obtain⟨s5,e5,q5,l5⟩:=cat s4 [32] _ l4 (by simp only[List.length_cons,List.length_nil];omega);obtain⟨s6,e6,q6,l6⟩:=cat s5 (decI r.sz) _ l5 (by simp only[List.length_cons,List.length_nil];omega);obtain⟨s7,e7,q7,l7⟩:=cat s6 [32] _ l6 (by simp only[List.length_cons,List.length_nil];omega);obtain⟨s8,e8,q8,l8⟩:=cat s7 r.nd.ct.txt _ l7 (by simp only[List.length_cons,List.length_nil];omega);obtain⟨s9,e9,q9,l9⟩:=cat s8 [10] _ l8 (by simp only[List.length_cons,List.length_nil];omega);have eT:lineT p r.c r.nd.ct.txt=s9:=by
    rw[e9,e8,e7,e6,e5,e4,e3,e2,e1];simp[lineT,Rw.c,hk]
  refine does_fn g29 rfl ?_;simp(maxSteps:=1000000) (disch:=omega) only[fn29,evs,↓reduceIte,Nat.reduceEqDiff,Nat.reduceAdd,Nat.reduceMul,Nat.reduceLeDiff,Nat.reduceLT,Int.reduceNeg,DF,eff,Nat.reduceSub,fwrap_i64,←e_h1,t3];refine OQ_does (text_ok F_h1.wf (Tb0.fr F_h1 (by simp)) (by have:=F_h1.next;omega) (ha.fr F_h1) wd g lt) ?_;rintro _ h2 ⟨rfl,F2⟩;have u0:hload1 h2 h.next 0=some (.int .u64 (K:Int)):=by rw[←hk];exact(F2.get o_h1).ld1 0
  have T2:=Tb0.fr (F_h1.then F2) (by simp);simp(maxSteps:=1000000) (disch:=omega) only[evs,↓reduceIte,Nat.reduceEqDiff,Nat.reduceAdd,Nat.reduceMul,Nat.reduceLeDiff,Nat.reduceLT,Int.reduceNeg,DF,eff,Nat.reduceSub,fwrap_i64,u0,q1];refine OQ_does (fmtU10_ok F2.wf T2 hK) ?_;rintro _ h3 ⟨rfl,F3⟩;have u1:hload1 h3 h.next 1=some (.int .i64 r.top):=((F2.then F3).get o_h1).ld1 1;have T3:=T2.fr F3 (by simp);simp(maxSteps:=1000000) (disch:=omega) only[evs,↓reduceIte,Nat.reduceEqDiff,Nat.reduceAdd,Nat.reduceMul,Nat.reduceLeDiff,Nat.reduceLT,Int.reduceNeg,DF,eff,Nat.reduceSub,fwrap_i64,u0,u1,q2,q3];refine OQ_does (fmtI10_ok F3.wf T3 ht) ?_;rintro _ h4 ⟨rfl,F4⟩;have u2:hload1 h4 h.next 2=some (.int .i64 r.sz):=(((F2.then F3).then F4).get o_h1).ld1 2;have T4:=T3.fr F4 (by simp);simp(maxSteps:=1000000) (disch:=omega) only[evs,↓reduceIte,Nat.reduceEqDiff,Nat.reduceAdd,Nat.reduceMul,Nat.reduceLeDiff,Nat.reduceLT,Int.reduceNeg,DF,eff,Nat.reduceSub,fwrap_i64,u0,u1,u2,q4,q5];refine OQ_does (fmtI10_ok F4.wf T4 hs) ?_;rintro _ h5 ⟨rfl,F5⟩;have u12:hload1 h2 h.next 1=some (.int .i64 r.top):=(F2.get o_h1).ld1 1;have u22:hload1 h2 h.next 2=some (.int .i64 r.sz):=(F2.get o_h1).ld1 2;have u23:hload1 h3 h.next 2=some (.int .i64 r.sz):=((F2.then F3).get o_h1).ld1 2;simp(maxSteps:=1000000) (disch:=omega) only[evs,↓reduceIte,Nat.reduceEqDiff,Nat.reduceAdd,Nat.reduceMul,Nat.reduceLeDiff,Nat.reduceLT,Int.reduceNeg,DF,eff,Nat.reduceSub,fwrap_i64,u0,u1,u2,u12,u22,u23,q6,q7,q8,q9];exact⟨by rw[eT],(((F_h1.then F2).then F3).then F4).then F5⟩
end
def stC:IC:=(.seq (.seq (.ops [⟨none,.p (.faddr 2) [.v 1],none⟩,⟨none,.ld 1 false (.l 0),some 45⟩]) (.cond (.v 45) (.seq (.ops [⟨none,.p (.faddr 3) [.v 1],none⟩,⟨none,.ld 9 true (.l 0),none⟩,⟨none,.cf 29 [.c (.str [104,101,97,100]),.l 0],none⟩,⟨none,.p (.ext 0) [.l 0],none⟩,⟨none,.p (.ext 1) [.l 1],none⟩,⟨none,.p .mv [.l 1],some 9⟩,⟨none,.p .mv [.l 0],some 10⟩]) (.seq (.seq (.ops [⟨none,.p (.ib .neq) [.v 10,.c (.int .i64 0)],some 53⟩]) (.cond (.v 53) (.seq (.ops [⟨none,.p .mv [.c (.str [])],some 2⟩,⟨none,.p .mv [.v 10],some 3⟩]) (.ret)) (.skip))) (.ops [⟨none,.cf 27 [.v 4,.v 9],none⟩]))) (.skip))) (.seq (.seq (.ops [⟨none,.cf 30 [.v 4],none⟩,⟨none,.p (.ib .gtr) [.l 0,.c (.int .i64 1048576)],some 58⟩]) (.cond (.v 58) (.seq (.ops [⟨none,.p .mv [.c (.str [])],some 2⟩,⟨none,.p .mv [.c (.int .i64 3)],some 3⟩]) (.ret)) (.skip))) (.seq (.ops [⟨none,.cf 25 [.v 4],none⟩,⟨none,.p .mv [.l 0],some 2⟩,⟨none,.p .mv [.c (.int .i64 0)],some 3⟩]) (.ret))))
def stB:IC:=(.seq (.ops [⟨none,.ux (.alt 72 [.nilp,.nils]) [],some 4⟩]) (.seq (.ops [⟨none,.p (.faddr 0) [.v 1],none⟩,⟨none,.ld 1 false (.l 0),none⟩,⟨none,.cf 28 [.l 0,.c (.int .i64 10)],none⟩,⟨none,.p (.sb .add) [.c (.str [111,102,102,115,101,116,32]),.l 0],none⟩,⟨none,.p (.sb .add) [.l 0,.c (.str [10])],none⟩,⟨none,.cf 27 [.v 4,.l 0],none⟩]) (.seq (.seq (.ops [⟨none,.p (.faddr 1) [.v 1],none⟩,⟨none,.ld 1 false (.l 0),some 27⟩,⟨none,.p .lenS [.v 27],some 28⟩,⟨none,.p .mv [.c (.int .i64 0)],some 29⟩]) (.block 0 (.loop (.seq (.ops [⟨none,.p (.ib .lss) [.v 29,.v 28],some 30⟩]) (.seq (.cond (.v 30) (.skip) (.exit 0)) (.seq (.block 1 (.seq (.ops [⟨none,.p (.ixs 9) [.v 27,.v 29],none⟩,⟨none,.ld 9 true (.l 0),none⟩,⟨none,.al [(.int .u64 0),(.int .i64 0),(.int .i64 0),(.int .u8 0),(.str []),(.str []),.nils,(.str []),.nils],some 6⟩,⟨none,.st 9 (.v 6) (.l 0),none⟩]) (.seq (.ops [⟨none,.ld 9 true (.v 6),none⟩,⟨none,.cf 29 [.c (.str [114,111,119]),.l 0],none⟩,⟨none,.p (.ext 0) [.l 0],none⟩,⟨none,.p (.ext 1) [.l 1],none⟩,⟨none,.p .mv [.l 1],some 7⟩,⟨none,.p .mv [.l 0],some 8⟩]) (.seq (.seq (.ops [⟨none,.p (.ib .neq) [.v 8,.c (.int .i64 0)],some 39⟩]) (.cond (.v 39) (.seq (.ops [⟨none,.p .mv [.c (.str [])],some 2⟩,⟨none,.p .mv [.v 8],some 3⟩]) (.ret)) (.skip))) (.ops [⟨none,.cf 27 [.v 4,.v 7],none⟩]))))) (.ops [⟨none,.p (.ib .add) [.v 29,.c (.int .i64 1)],none⟩,⟨none,.p .mv [.l 0],some 29⟩]))))))) stC)))
def fn13x:IFn:=⟨1,.seq (.ops [⟨none,.bx (.v 0),some 1⟩,⟨none,.p .mv [.c (.str [])],some 2⟩,⟨none,.p .mv [.c (.int .i64 0)],some 3⟩]) (.seq (.seq (.ops [⟨none,.p (.faddr 2) [.v 1],none⟩,⟨none,.ld 1 false (.l 0),none⟩,⟨none,.p .not [.l 0],none⟩,⟨(some (.l 0,true)),.p (.faddr 3) [.v 1],none⟩,⟨(some (.l 1,true)),.ld 9 true (.l 0),none⟩,⟨(some (.l 2,true)),.cf 26 [.l 0],none⟩,⟨(some (.l 3,true)),.p .not [.l 0],none⟩,⟨none,.p .pick [.l 4,.l 0,.c (.bool false)],some 19⟩]) (.cond (.v 19) (.seq (.ops [⟨none,.p .mv [.c (.str [])],some 2⟩,⟨none,.p .mv [.c (.int .i64 1)],some 3⟩]) (.ret)) (.skip))) stB),[.t 2,.t 3],[0,1,2,3,4,6,7,8,9,10,19,27,28,29,30,39,45,53,58]⟩
/-- (paternoster/paternosterlaw39.W).Of -/
theorem g13x:F.get 13=some fn13x:=rfl
end Go.Ev.Lay
