/- An evaluator of the program, and contracts over it: StcE to StdT. -/
import Derived.Test.YteojfkejdhhhpaaGreatDoorP08
set_option linter.unusedSimpArgs false
set_option linter.unusedVariables false
set_option linter.constructorNameAsVariable false
set_option linter.unnecessarySimpa false
set_option maxRecDepth 4000
namespace Go.Ev.Lay
variable{n0:NL}{h h':Heap}{b cap m x u n p o nd j:Nat}{Ks:List Knd}{E:List Ent}{Y:List Itm}{C:List V}
open Go.Ev.St
theorem Sto.step{J B U S bl I R:Nat}{cap:Int}{X X':List Itm}{l l':List Int}{kn st ad ab:List Bool}{vK:V}{pm:Option Nat}{mc D:pQ}(w:WF h)(s:Sto n0 h b Ks cap X l kn st vK J B U S bl pm mc)
 (f:Fr (Wr b J B U S bl pm) h h') (ob:Own h' b [vK,ZZ cap,.ptr J 0,.ptr U 0,.ptr bl 0]) (g:Gp h' J I X'.length (X'.flatMap Itm.cells)) (gB:Good h' I) (k:Km h' U R D.1 D.2) (gS:Good h' R) (lo:LoP h' bl pm l' ad ab)
 (len:l'.length=X'.length) (hB:I=B\/h.next<=I) (hS:R=S\/h.next<=R) (sub:∀x∈X',x∈X) (dB:I≠R):Sto n0 h' b Ks cap X' l' ad ab vK J I U R bl pm D:=by
 have d:=s.d;have fn:=f.next;have n0l:=s.n0l;have lb:=s.ob.lt w;have lg:=s.g.ob.1.lt w;have lm:=s.k.lt w;have ll:=s.bl';have pl:=s.pl;refine⟨ob,g,gB,k,gS,lo,len,?_,?_,gS.lt f.wf,fun q e=>by have:=pl q e;omega,oM,fun z q=>by have:=n0l z q;omega⟩
 ·intro Z h2 hZ f2;have r:=s.rd (Wr b J B U S bl pm++Z) h2 (fun z m=>?_) (Qx f f2 w (fun x m=>.inl (Qp.2 (.inl m))) (fun x m=>.inl (Qp.2 (.inr m))))
  ·grind
  ·rcases Qp.1 m with m|m
   ·exact .inl m
   ·rcases hZ z m with q|q|q
    ·simp only[Wr,Qp,Qy,Rz,or_false]at q|-;rcases q with(q|q|q|q|q|q)|q
     ·omega
     ·omega
     ·omega
     ·omega
     ·omega
     ·omega
     ·exact .inl (.inr q)
    ·omega
    ·exact .inr (.inr q)
 ·have nB:∀y,y<h.next->y≠B->y≠I:=fun y a c=>by rcases hB with rfl|q<;>omega
  have nS:∀y,y<h.next->y≠S->y≠R:=fun y a c=>by rcases hS with rfl|q<;>omega
  refine⟨d.b1,nB b lb d.b2,d.b3,nS b lb d.b4,d.b5,d.g1,nS J lg d.g2,d.g3,(nB U lm d.t1.symm).symm,dB,(nB bl ll d.t3.symm).symm,d.m1,(nS bl ll d.m2.symm).symm,fun q e=>?_⟩;obtain⟨y1,y2,y3,y4,y5,y6⟩:=d.p q e;exact⟨y1,y2,nB q (pl q e) y3,y4,nS q (pl q e) y5,y6⟩
def Dh(mc:pQ):List Itm->pQ
 |[]=>mc
 |x::r=>Dh (fun y=>if y=x.key then none else mc.1 y,mc.2-1) r
def In40(l:List Int):Prop:=∀x∈l,1<=x/\x<=40
theorem In40.app{a b:List Int}(h:In40 a)(g:In40 b):In40 (a++b):=fun x m=>(Qp.1 m).elim (h x) (g x)
theorem In40.take{a:List Int}(h:In40 a)(n:Nat):In40 (a.take n):=fun x m=>h x (QP m)
theorem In40.drop{a:List Int}(h:In40 a)(n:Nat):In40 (a.drop n):=fun x m=>h x (Sf m)
def IxL(m:Nat->Option Nat)(L:List Nat):Prop:=∀k j:Nat,m k=some j↔L[j]? =some k
theorem sU{m:Nat->Option Nat}:IxOf m E↔IxL m (E.map fun e=>e.x.key):=by
 unfold IxOf IxL;refine forall_congr' fun k=>forall_congr' fun j=>?_;rw[SK];cases E[j]? with
 |none=>simp
 |some e=>simp
structure Ntc where
 k:Nat
 a:Int
 c:Int
 t:Int
 Y:List Itm
def BF(Ks:List Knd)(Y:List Itm):List Ent:=Y.map fun y=>⟨y,di Ks y,false⟩
def lT(E:List Ent):List Nat:=E.map fun e=>e.x.key
def RK(Ks:List Knd):Prop:=okR Ks 12=true/\Ks.length=3/\GK Ks
structure LV(Ks:List Knd)(E:List Ent):Prop where
 o:∀e∈E,okI e.x 3=true/\jK Ks 12 e.x=0
 b:∀e∈E,e.kn=false->e.b=di Ks e.x
 c:∀e∈E,e.kn=true->1<=e.b/\e.b<=40
 n:(lT E).Nodup
theorem RK.base(r:RK Ks){x:Itm}(o:okI x 3=true):1<=di Ks x/\di Ks x<=40:=by
 simp only[okI,be,decide_eq_true_eq]at o;have p:Ks[x.type]? =some (Ks[x.type]'(by rw[r.2.1];exact o.2.1)):=Qq _;generalize Ks[x.type]'(by rw[r.2.1];exact o.2.1)=q at p;have g:=(r.2.2 q (Of p)).2.2;rw[di,p];exact g
theorem LOk.lv(a:LOk Ks h E):LV Ks E:=⟨fun e m=>⟨(a.h e m).2.2.1,(a.h e m).2.2.2⟩,a.b,a.c,a.n⟩
theorem KK:lT (BF Ks Y)=Y.map Itm.key:=by simp[BF,lT]
theorem LV.app{A B:List Ent}(a:LV Ks A)(b:LV Ks B)(d:∀k∈lT A,k∉lT B):LV Ks (A++B):=by
 refine⟨fun e m=>(Qp.1 m).elim (a.o e) (b.o e),fun e m=>(Qp.1 m).elim (a.b e) (b.b e),fun e m=>(Qp.1 m).elim (a.c e) (b.c e),?_⟩;rw[lT,RL,List.nodup_append];exact⟨a.n,b.n,fun x hx y Z e=>d x hx (e▸Z)⟩
theorem LV.sub{A B:List Ent}(a:LV Ks B)(s:A.Sublist B):LV Ks A:=⟨fun e m=>a.o e (s.subset m),fun e m=>a.b e (s.subset m),fun e m=>a.c e (s.subset m),a.n.sublist (s.map _)⟩
theorem LV.fresh(r:RK Ks)(h:∀y∈Y,okI y Ks.length=true/\jK Ks 12 y=0)(n:(Y.map Itm.key).Nodup):LV Ks (BF Ks Y):=by
 refine⟨fun e m=>?_,fun e m _=>?_,fun e m k=>?_,by rw[KK];exact n⟩<;>obtain⟨y,Z,rfl⟩:=Tn.1 m
 ·have:=h y Z;rw[r.2.1]at this;exact this
 ·rfl
 ·cases k
open Go.Ev.St
def SW(n0:NL)(W:Nat->Prop)(C:Nat)(Ks:List Knd)(h:Heap)(b:Nat)(E:List Ent):Prop:=∃K X st vK bg B bm S bl pm mc,Sto n0 h b K 12 X (E.map Ent.b) (E.map Ent.kn) st vK bg B bm S bl pm mc/\fW Ks K/\X.map Itm.val=E.map (fun e=>e.x.val)/\IxL mc.1 (lT E)/\mc.2<=C/\∀y∈Wr b bg B bm S bl pm,W y
theorem SW.fr{W:Nat->Prop}{C:Nat}(w:WF h)(s:SW n0 W C Ks h b E)(f:Fr [] h h'):SW n0 W C Ks h' b E:=by
 obtain⟨K,X,st,vK,R,B,J,S,bl,U,Z,s,r⟩:=s;exact⟨K,X,st,vK,R,B,J,S,bl,U,Z,s.fr w f,r⟩
theorem SW.mono{W U:Nat->Prop}{C Z:Nat}(s:SW n0 W C Ks h b E)(hW:∀y,W y->U y)(D:C<=Z):SW n0 U Z Ks h b E:=by
 obtain⟨K,X,st,vK,bg,B,I,S,bl,J,R,s,sk,ev,ix,c,r⟩:=s;exact⟨K,X,st,vK,bg,B,I,S,bl,J,R,s,sk,ev,ix,QY c D,fun y m=>hW y (r y m)⟩
section
variable {n0 : NL} {W : Nat -> Prop} {C : Nat} {Ks : List Knd} {h : Heap} {b : Nat} {E : List Ent} {Y : List Itm} {a c t : Int} {v k0 a0 c0 t0 : V}
def WZ(W:Nat->Prop)(h h':Heap):Prop:=∃Z,(∀z∈Z,W z\/h.next<=z)/\Fr Z h h'
end
open Go.Ev.St
def i64(a:Int):Prop:=-9223372036854775808<=a/\a<=9223372036854775807
def SV(W:Nat->Prop)(h:Heap)(v:V)(Y:List Itm):Prop:=∀(Z:List Nat)(h':Heap),(∀z∈Z,W z\/h.next<=z)->Fr Z h h'->ARecs Itm.cells 4 h' v Y/\∀y∈Y,ItmH h' y
theorem SV.keep{W:Nat→Prop}{h h':Heap}{v:V}{Y:List Itm}(s:SV W h v Y)(w:WF h)(f:WZ W h h'):SV (fun z=>W z∨h.next≤z) h' v Y:=by
 obtain⟨Z0,hZ0,f⟩:=f;have n:=f.next;intro Z h2 hZ f2;refine s (Z0++Z) h2 (fun z m=>?_) (Fr.trans f f2 w (fun x m=>.inl (List.mem_append.2 (.inl m))) (fun x m=>.inl (List.mem_append.2 (.inr m))));rcases List.mem_append.1 m with m|m
 ·exact hZ0 z m
 ·grind
theorem SV.fr{W:Nat->Prop}{v:V}(s:SV W h v Y)(w:WF h)(f:Fr [] h h'):SV W h' v Y:=by
 have n:=f.next;intro Z U R f2;exact s Z U (fun z m=>(R z m).imp id fun q=>by omega) (Qx f f2 w iS (fun x m=>.inl m))
theorem WZ.pre{W:Nat->Prop}{U R:Heap}(w:WF h)(f:Fr [] h U)(z:WZ W U R):WZ W h R:=by
 obtain⟨Z,J,g⟩:=z;have n:=f.next;exact⟨Z,fun z m=>(J z m).imp id fun q=>by omega,Qx f g w iS (fun x m=>.inl m)⟩
def Tq(h:Heap):Prop:=(∃k,h.bl.get 2=some (.row bS 2 k))/\h.fams.get 2=none
theorem Hc(a n:Nat)(b:Int)(hb:b=n)(h:n≠0):aP (.ib .rem) [ZX (a:Int),ZX b]=some (ZX ((a%n:Nat):Int)):=by
 exact ya5
theorem xw(a n:Nat)(b:Int)(Z:b=n)(h:n≠0)(U:a<18446744073709551616):aP (.ib .quo) [ZX (a:Int),ZX b]=some (ZX ((a/n:Nat):Int)):=by
 subst Z;rw[iB _ _ _ oM,(iR:(a:Int).tdiv (n:Int)=((a/n:Nat):Int))];have q:=RQ a n;generalize a/n=m at q|-;rw[fwrap_u64 _ oM oM]
def qI(v:Int):Str:=if v<0 then 45::dec (-v).toNat else dec v.toNat
theorem eR(a i:Nat)(b:Int)(k:IntKind)(Z:b=i)(J:i<=64)(R:a<18446744073709551616):aP (.sh false) [ZX (a:Int),.int k b]=some (ZX ((a/2^i:Nat):Int)):=by
 subst Z;rw[ut _ _ _ _ oM];have e:min (i:Int).toNat IntKind.u64.bits=i:=by show min i 64=i;omega
 rw[e];have U:(a:Int).fdiv ((2^i:Nat):Int)=((a/2^i:Nat):Int):=by grind
 rw[U]
def l8T:List UInt8:=[0,1,2,2,3,3,3,3,4,4,4,4,4,4,4,4,5,5,5,5,5,5,5,5,5,5,5,5,5,5,5,5,6,6,6,6,6,6,6,6,6,6,6,6,6,6,6,6,6,6,6,6,6,6,6,6,6,6,6,6,6,6,6,6,7,7,7,7,7,7,7,7,7,7,7,7,7,7,7,7,7,7,7,7,7,7,7,7,7,7,7,7,7,7,7,7,7,7,7,7,7,7,7,7,7,7,7,7,7,7,7,7,7,7,7,7,7,7,7,7,7,7,7,7,7,7,7,7,8,8,8,8,8,8,8,8,8,8,8,8,8,8,8,8,8,8,8,8,8,8,8,8,8,8,8,8,8,8,8,8,8,8,8,8,8,8,8,8,8,8,8,8,8,8,8,8,8,8,8,8,8,8,8,8,8,8,8,8,8,8,8,8,8,8,8,8,8,8,8,8,8,8,8,8,8,8,8,8,8,8,8,8,8,8,8,8,8,8,8,8,8,8,8,8,8,8,8,8,8,8,8,8,8,8,8,8,8,8,8,8,8,8,8,8,8,8,8,8,8,8,8,8,8,8,8,8]
def lg8(x:Nat):Nat:=if x=0 then 0 else x.log2+1
theorem OI:∀x,x<256->(l8T[x]?).map UInt8.toNat=some (lg8 x):=by decide+kernel
theorem j5:∀x,x<256->x<2^lg8 x/\(0<x->0<lg8 x/\2^(lg8 x-1)<=x)/\lg8 x<=8:=by decide+kernel
theorem p9(h:x<256)(k:IntKind):aP .ixstr [.str [0,1,2,2,3,3,3,3,4,4,4,4,4,4,4,4,5,5,5,5,5,5,5,5,5,5,5,5,5,5,5,5,6,6,6,6,6,6,6,6,6,6,6,6,6,6,6,6,6,6,6,6,6,6,6,6,6,6,6,6,6,6,6,6,7,7,7,7,7,7,7,7,7,7,7,7,7,7,7,7,7,7,7,7,7,7,7,7,7,7,7,7,7,7,7,7,7,7,7,7,7,7,7,7,7,7,7,7,7,7,7,7,7,7,7,7,7,7,7,7,7,7,7,7,7,7,7,7,8,8,8,8,8,8,8,8,8,8,8,8,8,8,8,8,8,8,8,8,8,8,8,8,8,8,8,8,8,8,8,8,8,8,8,8,8,8,8,8,8,8,8,8,8,8,8,8,8,8,8,8,8,8,8,8,8,8,8,8,8,8,8,8,8,8,8,8,8,8,8,8,8,8,8,8,8,8,8,8,8,8,8,8,8,8,8,8,8,8,8,8,8,8,8,8,8,8,8,8,8,8,8,8,8,8,8,8,8,8,8,8,8,8,8,8,8,8,8,8,8,8,8,8,8,8,8,8],.int k (x:Int)]=some (ZY ((lg8 x:Nat):Int)):=by
 have e:=OI x h;show(l8T[x]?).map (fun b=>ZY (b.toNat:Int))=_;cases q:l8T[x]? with
 |none=>rw[q]at e;cases e
 |some b=>rw[q]at e;simp only[QG,QA]at e|-;rw[e]
def BL(u L:Nat):Prop:=u<2^L/\(0<u->0<L/\2^(L-1)<=u)
theorem BL.up{k:Nat}(hx:x=u/2^n)(h:x<2^k)(Z:0<x->0<k/\2^(k-1)<=x)(U:0<u->0<x):BL u (n+k):=by
 subst hx;have pn:0<2^n:=Nat.two_pow_pos n;refine⟨?_,fun R=>?_⟩
 ·rw[Nat.pow_add];have:=Nat.div_lt_iff_lt_mul pn|>.1 h;rw[TH]at this;exact this
 ·obtain⟨I,J⟩:=Z (U R);refine⟨oM,?_⟩;rw[(oM:n+k-1=n+(k-1)),Nat.pow_add,TH];exact QY (Rm _ J) (Nat.div_mul_le_self u (2^n))
theorem HT(J:u<18446744073709551616):ay go 253 [ZX (u:Int)] h fun v h'=>∃L:Nat,v=ZZ (L:Int)/\BL u L/\L<=64/\h=h':=by
 by_cases c1:4294967296<=u
 ·by_cases c2:65536<=u/2^32
  ·by_cases c3:256<=u/2^32/2^16
   ·have R:u=u/2^0:=by simp
    have hx:(((u/2^32)/2^16)/2^8)<256:=oM
    have U:aB .u8 (((((u/2^32)/2^16)/2^8):Nat):Int)=(((((u/2^32)/2^16)/2^8):Nat):Int):=fwrap_u8 _ oM oM;have Z:=j5 _ hx;refine aa ?_;simp(disch:=omega) only[evs,↓reduceIte,Nat.reduceEqDiff,fwrap_i64,(oM:(4294967296:Int)<=(u:Nat)),eR (u) 32 32 .u64 rfl oM oM,(oM:(65536:Int)<=((u/2^32):Nat)),eR ((u/2^32)) 16 16 .u64 rfl oM oM,(oM:(256:Int)<=(((u/2^32)/2^16):Nat)),eR (((u/2^32)/2^16)) 8 8 .u64 rfl oM oM,U,p9 hx .u8];refine⟨56+lg8 (((u/2^32)/2^16)/2^8),iS,BL.up (x:=(((u/2^32)/2^16)/2^8)) (by simp[Si]) Z.1 Z.2.1 oM,oM⟩
   ·have R:u=u/2^0:=by simp
    have hx:((u/2^32)/2^16)<256:=oM
    have U:aB .u8 ((((u/2^32)/2^16):Nat):Int)=((((u/2^32)/2^16):Nat):Int):=fwrap_u8 _ oM oM;have Z:=j5 _ hx;refine aa ?_;simp(disch:=omega) only[evs,↓reduceIte,Nat.reduceEqDiff,fwrap_i64,(oM:(4294967296:Int)<=(u:Nat)),eR (u) 32 32 .u64 rfl oM oM,(oM:(65536:Int)<=((u/2^32):Nat)),eR ((u/2^32)) 16 16 .u64 rfl oM oM,(oM:¬(256:Int)<=(((u/2^32)/2^16):Nat)),U,p9 hx .u8];refine⟨48+lg8 ((u/2^32)/2^16),iS,BL.up (x:=((u/2^32)/2^16)) (by simp[Si]) Z.1 Z.2.1 oM,oM⟩
  ·by_cases c3:256<=u/2^32
   ·have R:u=u/2^0:=by simp
    have hx:((u/2^32)/2^8)<256:=oM
    have U:aB .u8 ((((u/2^32)/2^8):Nat):Int)=((((u/2^32)/2^8):Nat):Int):=fwrap_u8 _ oM oM;have Z:=j5 _ hx;refine aa ?_;simp(disch:=omega) only[evs,↓reduceIte,Nat.reduceEqDiff,fwrap_i64,(oM:(4294967296:Int)<=(u:Nat)),eR (u) 32 32 .u64 rfl oM oM,(oM:¬(65536:Int)<=((u/2^32):Nat)),(oM:(256:Int)<=((u/2^32):Nat)),eR ((u/2^32)) 8 8 .u64 rfl oM oM,U,p9 hx .u8];refine⟨40+lg8 ((u/2^32)/2^8),iS,BL.up (x:=((u/2^32)/2^8)) (by simp[Si]) Z.1 Z.2.1 oM,oM⟩
   ·have R:u=u/2^0:=by simp
    have hx:(u/2^32)<256:=oM
    have U:aB .u8 (((u/2^32):Nat):Int)=(((u/2^32):Nat):Int):=fwrap_u8 _ oM oM;have Z:=j5 _ hx;refine aa ?_;simp(disch:=omega) only[evs,↓reduceIte,Nat.reduceEqDiff,fwrap_i64,(oM:(4294967296:Int)<=(u:Nat)),eR (u) 32 32 .u64 rfl oM oM,(oM:¬(65536:Int)<=((u/2^32):Nat)),(oM:¬(256:Int)<=((u/2^32):Nat)),U,p9 hx .u8];refine⟨32+lg8 (u/2^32),iS,BL.up (x:=(u/2^32)) (by simp[]) Z.1 Z.2.1 oM,oM⟩
 ·by_cases c2:65536<=u
  ·by_cases c3:256<=u/2^16
   ·have R:u=u/2^0:=by simp
    have hx:((u/2^16)/2^8)<256:=oM
    have U:aB .u8 ((((u/2^16)/2^8):Nat):Int)=((((u/2^16)/2^8):Nat):Int):=fwrap_u8 _ oM oM;have Z:=j5 _ hx;refine aa ?_;simp(disch:=omega) only[evs,↓reduceIte,Nat.reduceEqDiff,fwrap_i64,(oM:¬(4294967296:Int)<=(u:Nat)),(oM:(65536:Int)<=(u:Nat)),eR (u) 16 16 .u64 rfl oM oM,(oM:(256:Int)<=((u/2^16):Nat)),eR ((u/2^16)) 8 8 .u64 rfl oM oM,U,p9 hx .u8];refine⟨24+lg8 ((u/2^16)/2^8),iS,BL.up (x:=((u/2^16)/2^8)) (by simp[Si]) Z.1 Z.2.1 oM,oM⟩
   ·have R:u=u/2^0:=by simp
    have hx:(u/2^16)<256:=oM
    have U:aB .u8 (((u/2^16):Nat):Int)=(((u/2^16):Nat):Int):=fwrap_u8 _ oM oM;have Z:=j5 _ hx;refine aa ?_;simp(disch:=omega) only[evs,↓reduceIte,Nat.reduceEqDiff,fwrap_i64,(oM:¬(4294967296:Int)<=(u:Nat)),(oM:(65536:Int)<=(u:Nat)),eR (u) 16 16 .u64 rfl oM oM,(oM:¬(256:Int)<=((u/2^16):Nat)),U,p9 hx .u8];refine⟨16+lg8 (u/2^16),iS,BL.up (x:=(u/2^16)) (by simp[]) Z.1 Z.2.1 oM,oM⟩
  ·by_cases c3:256<=u
   ·have R:u=u/2^0:=by simp
    have hx:(u/2^8)<256:=oM
    have U:aB .u8 (((u/2^8):Nat):Int)=(((u/2^8):Nat):Int):=fwrap_u8 _ oM oM;have Z:=j5 _ hx;refine aa ?_;simp(disch:=omega) only[evs,↓reduceIte,Nat.reduceEqDiff,fwrap_i64,(oM:¬(4294967296:Int)<=(u:Nat)),(oM:¬(65536:Int)<=(u:Nat)),(oM:(256:Int)<=(u:Nat)),eR (u) 8 8 .u64 rfl oM oM,U,p9 hx .u8];refine⟨8+lg8 (u/2^8),iS,BL.up (x:=(u/2^8)) (by simp[]) Z.1 Z.2.1 oM,oM⟩
   ·have R:u=u/2^0:=by simp
    have hx:u<256:=oM
    have U:aB .u8 ((u:Nat):Int)=((u:Nat):Int):=fwrap_u8 _ oM oM;have Z:=j5 _ hx;refine aa ?_;simp(disch:=omega) only[evs,↓reduceIte,Nat.reduceEqDiff,fwrap_i64,(oM:¬(4294967296:Int)<=(u:Nat)),(oM:¬(65536:Int)<=(u:Nat)),(oM:¬(256:Int)<=(u:Nat)),U,p9 hx .u8];refine⟨0+lg8 u,iS,BL.up (x:=u) (by simp[]) Z.1 Z.2.1 oM,oM⟩
theorem Nm{L:Nat}(U:L<=64):ay go 252 [ZZ (L:Int)] h fun v h'=>v=ZZ ((L*78913/262144:Nat):Int)/\h=h':=by
 have e:aP (.sh false) [ZZ ((L:Int) *78913),ZX 18]=some (ZZ ((L*78913/262144:Nat):Int)):=by
  rw[ut _ _ _ _ oM];have Z:min (18:Int).toNat IntKind.i64.bits=18:=rfl;rw[Z,(oM:((L:Int) *78913)=((L*78913:Nat):Int)),Tx _ dI];rfl
 refine aa ?_;simp(disch:=omega)[evs,fwrap_i64,e]
theorem EG:∀L,L<=64->L*78913/262144<20/\2^L<=10^(L*78913/262144+1)/\(0<L->0<L*78913/262144->10^(L*78913/262144-1)<=2^(L-1)):=by decide+kernel
def ND(u n:Nat):Prop:=u<10^n/\10^(n-1)<=u/\0<n/\n<=20
theorem GJ:∀x,x<20->bS[x]? =some (ZX ((10^x:Nat):Int)):=by
 intro x hx;rcases(by omega:x=0\/x=1\/x=2\/x=3\/x=4\/x=5\/x=6\/x=7\/x=8\/x=9\/x=10\/x=11\/x=12\/x=13\/x=14\/x=15\/x=16\/x=17\/x=18\/x=19)with rfl|rfl|rfl|rfl|rfl|rfl|rfl|rfl|rfl|rfl|rfl|rfl|rfl|rfl|rfl|rfl|rfl|rfl|rfl|rfl<;>rfl
theorem pG(T:Tq h)(J:u<18446744073709551616)(R:0<u):ay go 189 [ZX (u:Int)] h fun v h'=>∃n:Nat,v=ZZ (n:Int)/\ND u n/\h=h':=by
 have o:Own h 2 bS:=Pl.own T;refine aa ?_;simp only[evs,seval];refine ae (HT J) ?_;rintro _ _ ⟨L,rfl,⟨b1,b2⟩,Z,rfl⟩;simp only[evs];refine dm (Nm Z) ?_;obtain⟨f1,f2,f3⟩:=EG L Z;obtain⟨b3,b4⟩:=b2 R;generalize L*78913/262144=x at f1 f2 f3;have ix:aP (.ixa 20 1) [.ptr 2 0,ZZ (x:Int)]=some (.ptr 2 x):=by rw[iC _ _ _ _ _ _ oM oM];simp
 have ld:ai h 2 x=some (ZX ((10^x:Nat):Int)):=by rw[o.ld1,fq];exact GJ x f1
 by_cases c:10^x<=u
 ·simp only[evs,seval,ix,ld,(oM:((10^x:Nat):Int)<=(u:Int))];refine ae (?_:ay go 254 [.bool true] h fun v h'=>v=ZZ 1/\h=h') ?_
  ·refine aa ?_;simp only[evs,seval]
  rintro _ _ ⟨rfl,rfl⟩;simp(disch:=omega) only[evs,seval,fwrap_i64];exact⟨x+1,iS,⟨QH b1 f2,by simpa using c,oM,oM⟩⟩
 ·simp only[evs,seval,ix,ld,(oM:¬((10^x:Nat):Int)<=(u:Int))];refine ae (?_:ay go 254 [.bool false] h fun v h'=>v=ZZ 0/\h=h') ?_
  ·refine aa ?_;simp only[evs,seval]
  rintro _ _ ⟨rfl,rfl⟩;simp(disch:=omega) only[evs,seval,fwrap_i64];have U:0<x:=by grind
  exact⟨x,iS,⟨oM,QY (f3 b3 U) b4,U,oM⟩⟩
theorem g76x : F.get 190 = some fn76x := rfl
def cP:Nat->Nat->Str
 |0,_=>[]
 |n+1,u=>cP n (u/10)++[UInt8.ofNat (48+u%10)]
theorem sM:∀n u:Nat,(cP n u).length=n
 |0,_=>rfl
 |n+1,u=>by rw[cP,Qv,sM n];rfl
theorem mO(a:Nat):∀b u:Nat,cP (a+b) u=cP a (u/10^b)++cP b u
 |0,u=>by simp[cP]
 |b+1,u=>by
  rw[<-RT,cP,mO a b,cP,Si,TK,TH 10,QE]
theorem iP:∀n u:Nat,cP n (u%10^n)=cP n u
 |0,_=>rfl
 |n+1,u=>by
  rw[cP,cP,←iP n (u/10),←iP n (u%10^(n+1)/10)];have e1:u%10^(n+1)/10%10^n=u/10%10^n:=by
   rw[Nat.pow_succ,Nat.mul_comm,Nat.mod_mul_right_div_self,Nat.mod_mod]
  have e2:u%10^(n+1)%10=u%10:=by rw[Nat.pow_succ,Nat.mul_comm,Nat.mod_mul_right_mod]
  rw[e1,e2]
theorem yj:∀(n u:Nat),u<10^n→10^(n-1)≤u∨n=1→0<n→dec u=cP n u
 |0,_,_,_,h=>by omega
 |1,u,h,_,_=>by
  have:u<10:=by simpa using h
  rw[kD this,cP,cP,Nat.mod_eq_of_lt this];rfl
 |n+2,u,h1,h2,_=>by
  have h2':10^(n+1)≤u:=by grind
  have h10:10≤u:=by grind
  rw[pH oM,cP,yj (n+1) (u/10) ?_ (.inl ?_) oM]
  ·grind
  ·grind
theorem zq(h:p<100):cP 2 p=[UInt8.ofNat (48+p/10),UInt8.ofNat (48+p%10)]:=by
 simp only[cP,Ri,Rb];rw[RR (oM:p/10<10)]
theorem GU:∀p,p<100->smT[2*p]? =some (UInt8.ofNat (48+p/10))/\smT[2*p+1]? =some (UInt8.ofNat (48+p%10)):=by decide+kernel
theorem OR(h:p<100)(k:IntKind):aP .ixstr [.str smT,.int k ((2*p:Nat):Int)]=some (c8 (UInt8.ofNat (48+p/10))):=by
 show(smT[2*p]?).map _=_;rw[(GU p h).1];rfl
theorem Nn(h:p<100)(k:IntKind):aP .ixstr [.str smT,.int k ((2*p+1:Nat):Int)]=some (c8 (UInt8.ofNat (48+p%10))):=by
 show(smT[2*p+1]?).map _=_;rw[(GU p h).2];rfl
def DS(C:List V)(o m nd:Nat)(acc:Str):Prop:=acc.length+m=nd/\o+nd<=C.length/\(C.drop (o+m)).take acc.length=acc.map c8
theorem DS.set2{acc:Str}{a b:UInt8}(d:DS C o (m+2) nd acc):DS ((C.set (o+m+1) (c8 b)).set (o+m) (c8 a)) o m nd ([a,b]++acc):=by
 obtain⟨J,U,Z⟩:=d;refine⟨by simp;omega,by simpa using U,?_⟩;have R:((C.set (o+m+1) (c8 b)).set (o+m) (c8 a)).drop (o+m)=c8 a::c8 b::C.drop (o+(m+2)):=by
  rw[Se,if_pos oO,RY oO,QF oO,Ri];congr 1;rw[Se,if_pos oM,RY oO,QF oO,Ri];congr 1
 rw[R];simp only[Rb,Ri,QB,SU,QU,Z]
theorem DS.set1{acc:Str}{b:UInt8}(d:DS C o (m+1) nd acc):DS (C.set (o+m) (c8 b)) o m nd (b::acc):=by
 obtain⟨R,U,Z⟩:=d;refine⟨by simp;omega,by simpa using U,?_⟩;rw[Se,if_pos oM,RY oO,QF oO,Ri];simp only[QB,SU,QU];rw[<-Z];rfl
theorem sA{env:T V}{N R:Nat}{t:Nat}{acc:Str}{Q:Ex->T V->Heap->Prop}(w:WF h)(oC:Own h b C)(d:DS C o (m-2*t) nd acc)(hm:2*t+2<=m)(ab:m<=N)(hN:N<=24)
 (g0:env.get 0=some (.slice b o N cap)) (g4:env.get 4=some (ZZ (m:Int))) (gx:env.get R=some (.int .u32 ((2*p:Nat):Int))) (Z:p<100)
 (k:∀h' C',Own h' b C'->C'.length=C.length->DS C' o (m-2*(t+1)) nd (cP 2 p++acc)->Fr [b] h h'->Q .norm env h'):W go (pr (2*t+1:Nat) (2*t+2:Nat) R) env h Q:=by
 have w1:aB .u32 (((2*p:Nat):Int)+1)=((2*p+1:Nat):Int):=by rw[gK _ oM oM];omega
 have D:aP (.ixs 1) [.slice b o N cap,ZZ ((m:Int)-((2*t+1:Nat):Int))]=some (.ptr b (o+(m-2*(t+1))+1)):=by
  rw[bO _ _ _ _ _ _ _ oM oM];congr 2;omega
 have i2:aP (.ixs 1) [.slice b o N cap,ZZ ((m:Int)-((2*t+2:Nat):Int))]=some (.ptr b (o+(m-2*(t+1)))):=by
  rw[bO _ _ _ _ _ _ _ oM oM];congr 2;omega
 have d':DS C o (m-2*(t+1)+2) nd acc:=by grind
 have hl:=d.2.1;have I:=d.1;simp(disch:=omega) only[evs,eff,fwrap_i64,pr,g0,g4,gx,w1,OR Z .u32,Nn Z .u32,D];refine ac w oC rfl rfl (kI _ _ _ oM) ?_;intro h2 o2 U n2;simp only[evs,eff,i2];refine ac U.wf o2 rfl rfl (kI _ _ _ oO) ?_;intro J o3 F3 n3;simp[evs,DF];refine k J _ o3 iS ?_ (U.trans F3 w (fun x m=>.inl m) (fun x m=>.inl m));rw[zq Z];exact d'.set2
theorem kK(a n:Nat)(b:Int)(hb:b=n)(h:n≠0):aP (.ib .rem) [.int .u32 (a:Int),.int .u32 b]=some (.int .u32 ((a%n:Nat):Int)):=by
 exact ya5
theorem kL(a n:Nat)(b:Int)(Z:b=n)(h:n≠0)(U:a<4294967296):aP (.ib .quo) [.int .u32 (a:Int),.int .u32 b]=some (.int .u32 ((a/n:Nat):Int)):=by
 subst Z;rw[iB _ _ _ oM,(iR:(a:Int).tdiv (n:Int)=((a/n:Nat):Int))];have q:=RQ a n;generalize a/n=m at q|-;rw[gK _ oM oM]
theorem jC(h:p<100):aB .u32 ((p:Int) *2)=((2*p:Nat):Int):=by rw[gK _ oM oM];omega
theorem Nl(z:Nat):cP 4 z=cP 2 (z%10000/100)++cP 2 (z%10000%100):=by
 rw[<-iP 4 z,(iR:(10^4:Nat)=10000),mO 2 2,(iR:(10^2:Nat)=100),<-iP 2 (z%10000),(iR:(10^2:Nat)=100)]
theorem PU(z:Nat):cP 8 z=cP 2 (z%100000000/10000/100)++(cP 2 (z%100000000/10000%100)++(cP 2 (z%100000000%10000/100)++cP 2 (z%100000000%10000%100))):=by
 rw[<-iP 8 z,(iR:(10^8:Nat)=100000000),mO 4 4,(iR:(10^4:Nat)=10000),Nl,Nl,RR (oM:z%100000000/10000<10000),QE]
structure FB(h0 hh:Heap)(env:T V)(b o N cap m nd u x:Nat)(C0:List V)(C:List V):Prop where
 F:Fr [b] h0 hh
 oC:Own hh b C
 l:C.length=C0.length
 d:DS C o m nd (cP (nd-m) u)
 g0:env.get 0=some (.slice b o N cap)
 g4:env.get 4=some (ZZ (m:Int))
 xe:x=u/10^(nd-m)
 hm:m<=nd
 hN:nd=N
 h20:nd<=20
 ux:x<10^m
theorem FB.acc(hx:x=u/10^(nd-m))(hm:m<=nd)(Z:j<=m):cP j x++cP (nd-m) u=cP (nd-(m-j)) u:=by
 rw[(oM:nd-(m-j)=j+(nd-m)),mO,<-hx]
theorem FB.div(hx:x=u/10^(nd-m))(hm:m<=nd)(Z:j<=m):x/10^j=u/10^(nd-(m-j)):=by
 rw[hx,Si,<-Nat.pow_add];congr 2;omega
theorem FB.lt(h:x<10^m)(Z:j<=m):x/10^j<10^(m-j):=by
 rw[Nat.div_lt_iff_lt_mul (Nat.pow_pos oM),<-Nat.pow_add,(oM:m-j+j=m)];exact h
section
variable {h0 hh : Heap} {env : T V} {b o N cap m nd u x : Nat} {C0 C : List V} {Q : Ex -> T V -> Heap -> Prop}
def FQ(h0:Heap)(b o nd u:Nat)(C0:List V)(Q:Ex->T V->Heap->Prop):Prop:=∀env' h' C',Fr [b] h0 h'->Own h' b C'->C'.length=C0.length->(C'.drop o).take nd=(cP nd u).map c8->Q .norm env' h'
theorem Ip(D:WF h0)(f:FB h0 hh env b o N cap m nd u x C0 C)(Z:env.get 12=some (.int .u32 (x:Int)))(m2:m<2)(k:FQ h0 b o nd u C0 Q):W go fb1 env hh Q:=by
 obtain⟨F,oC,l,d,g0,g4,ex,hm,hN,h20,ux⟩:=f;rcases(by omega:m=0\/m=1)with rfl|rfl
 ·simp only[evs,seval,fb1,g4,(oM:¬(0:Int)<((0:Nat):Int))];have:=d.2.2;rw[Sh,sM,RG]at this;exact k _ _ C F oC l this
 ·have hx:x<10:=by simpa using ux
  have w1:aB .u32 (48+(x:Int))=((48+x:Nat):Int):=by rw[gK _ oM oM];omega
  have I:aB .u8 ((48+x:Nat):Int)=((48+x:Nat):Int):=fwrap_u8 _ oM oM;have ix:aP (.ixs 1) [.slice b o N cap,ZZ 0]=some (.ptr b o):=by rw[bO _ _ _ _ _ _ _ oM oM];rfl
  have e8:ZY ((48+x:Nat):Int)=c8 (UInt8.ofNat (48+x)):=by unfold c8;congr 1;simp;omega
  have dl:=d.2.1;simp only[evs,seval,fb1,g4,Z,g0,(oM:(0:Int)<((1:Nat):Int)),w1,I,ix,e8];refine ac F.wf oC rfl rfl (kI _ _ _ oM) ?_;intro h2 o2 J n2;simp only[evs];have R:DS (C.set (o+0) (c8 (UInt8.ofNat (48+x)))) o 0 nd (UInt8.ofNat (48+x)::cP (nd-1) u):=DS.set1 d;have e:UInt8.ofNat (48+x)::cP (nd-1) u=cP nd u:=by
   have:=FB.acc (j:=1) ex hm oM;rw[TY,Sh]at this;rw[<-this,cP,cP,RR hx];rfl
  rw[e]at R;have U:=R.2.2;rw[sM,RG]at U;exact k _ _ _ (F.trans J D (fun y q=>.inl q) (fun y q=>.inl q)) o2 (eV l) U
theorem Io(Z:WF h0)(f:FB h0 hh env b o N cap m nd u x C0 C)(R:env.get 12=some (.int .u32 (x:Int)))(m4:m<4)(k:FQ h0 b o nd u C0 Q):W go fb2 env hh Q:=by
 have f':=f;obtain⟨F,oC,l,d,g0,g4,U,hm,hN,h20,ux⟩:=f;have x4:x<10000:=QH ux (QY (Nat.pow_le_pow_right oM (oM:m<=4)) dI);by_cases c:2<=m
 ·have I:x%100<100:=QR _ oM;simp only[evs,seval,fb2,g4,R,(oM:(2:Int)<=(m:Int)),kK x 100 100 rfl oM,kL x 100 100 rfl oM oM,jC I];refine sA (t:=0) (p:=x%100) (nd:=nd) (cap:=cap) F.wf oC (by simpa using d) oM oM oM iX iX iS I ?_;intro h2 D o2 l2 J F2;simp(disch:=omega) only[evs,seval,fwrap_i64,g4];refine Ip (cap:=cap) (m:=m-2) (x:=x/100) (C:=D) Z ⟨F.trans F2 Z (fun y q=>.inl q) (fun y q=>.inl q),o2,oM,?_,iX,?_,?_,oM,hN,h20,?_⟩ iS oM k
  ·have:=iP 2 x;rw[this,FB.acc U hm c]at J;simpa using J
  ·simp;omega
  ·exact FB.div U hm c
  ·exact FB.lt (j:=2) ux c
 ·simp only[evs,seval,fb2,g4,(oM:¬(2:Int)<=(m:Int))];exact Ip (N:=N) (cap:=cap) Z ⟨F,oC,l,d,iX,iX,U,hm,hN,h20,ux⟩ iX oM k
theorem Nw(Z:WF h0)(f:FB h0 hh env b o N cap m nd u x C0 C)(g1:env.get 1=some (ZX (x:Int)))(m8:m<8)(k:FQ h0 b o nd u C0 Q):W go fb4 env hh Q:=by
 obtain⟨F,oC,l,d,g0,g4,U,hm,hN,h20,ux⟩:=f;have x8:x<100000000:=QH ux (QY (Nat.pow_le_pow_right oM (oM:m<=8)) dI);have w1:aB .u32 (x:Int)=(x:Int):=gK _ oM oM;by_cases c:4<=m
 ·have I:x%10000%100<100:=QR _ oM;have p1:x%10000/100<100:=oM
  simp only[evs,seval,fb4,g4,g1,w1,(oM:(4:Int)<=(m:Int)),kK x 10000 10000 rfl oM,kL x 10000 10000 rfl oM oM,kL (x%10000) 100 100 rfl oM oM,kK (x%10000) 100 100 rfl oM,jC I,jC p1];refine sA (t:=0) (p:=x%10000%100) (nd:=nd) (cap:=cap) F.wf oC (by simpa using d) oM oM oM iX iX iS I ?_;intro h2 C2 o2 l2 D R;simp only[evs];refine sA (cap:=cap) (t:=1) (p:=x%10000/100) (nd:=nd) R.wf o2 D oM oM oM iX iX iS p1 ?_;intro h3 C3 o3 l3 J F3;simp(disch:=omega) only[evs,seval,fwrap_i64,g4];refine Io (cap:=cap) (m:=m-4) (x:=x/10000) (C:=C3) Z ⟨(F.trans R Z (T:=[b]) (fun y q=>.inl q) (fun y q=>.inl q)).trans F3 Z (fun y q=>.inl q) (fun y q=>.inl q),o3,oM,?_,iX,?_,?_,oM,hN,h20,?_⟩ iS oM k
  ·rw[<-QE,<-Nl,FB.acc U hm c]at J;exact J
  ·simp;omega
  ·exact FB.div U hm c
  ·exact FB.lt (j:=4) ux c
 ·simp only[evs,seval,fb4,g4,g1,w1,(oM:¬(4:Int)<=(m:Int))];exact Io (N:=N) (cap:=cap) Z ⟨F,oC,l,d,iX,iX,U,hm,hN,h20,ux⟩ iS oM k
end
theorem pA(w:WF h)(oC:Own h b C)(D:u<18446744073709551616)(hu:u<10^nd)(h20:nd<=20)(hl:o+nd<=C.length):
 ay go 190 [.slice b o nd cap,ZX (u:Int)] h fun _ h'=>∃C',Own h' b C'/\C'.length=C.length/\(C'.drop o).take nd=(cP nd u).map c8/\Fr [b] h h':=by
 have len:aP .lenS [.slice b o nd cap]=some (ZZ (nd:Int)):=rfl;refine aa ?_ g76x rfl;simp only[evs,seval,len];refine aw (fun k env hh=>∃(m x:Nat)(C1:List V),FB h hh env b o nd cap m nd u x C C1/\env.get 1=some (ZX (x:Int))/\k=m) nd oM ?_ ?_
 ·exact⟨nd,u,C,⟨Qw w,oC,rfl,⟨by simp[cP],hl,by simp[cP]⟩,iS,iS,iS,pi _,rfl,h20,hu⟩,iS,rfl⟩
 ·rintro k env hh ⟨m,x,C1,f,g1,hk⟩;obtain rfl:=hk.symm;obtain⟨F,o1,l,d,g0,g4,Z,hm,hN,_,ux⟩:=id f;by_cases c:8<=m
  ·have y8:x%100000000<100000000:=QR _ oM;have xu:x<=u:=by rw[Z];exact RQ _ _
   have w1:aB .u32 ((x%100000000:Nat):Int)=((x%100000000:Nat):Int):=gK _ oM oM;have p0:x%100000000%10000%100<100:=QR _ oM;have p1:x%100000000%10000/100<100:=oM
   have p2:x%100000000/10000%100<100:=QR _ oM;have p3:x%100000000/10000/100<100:=oM
   simp only[evs,seval,g4,g1,(oM:(8:Int)<=(m:Int)),Hc x 100000000 100000000 rfl oM,xw x 100000000 100000000 rfl oM oM,w1,kK (x%100000000) 10000 10000 rfl oM,kL (x%100000000) 10000 10000 rfl oM oM,kL (x%100000000%10000) 100 100 rfl oM oM,kK (x%100000000%10000) 100 100 rfl oM,kL (x%100000000/10000) 100 100 rfl oM oM,kK (x%100000000/10000) 100 100 rfl oM,jC p0,jC p1,jC p2,jC p3];refine sA (t:=0) (p:=x%100000000%10000%100) (nd:=nd) (cap:=cap) F.wf o1 (by simpa using d) oM oM oM iX iX iS p0 ?_;intro h2 C2 o2 l2 d2 J;simp only[evs];refine sA (cap:=cap) (t:=1) (p:=x%100000000%10000/100) (nd:=nd) J.wf o2 d2 oM oM oM iX iX iS p1 ?_;intro h3 C3 o3 l3 d3 F3;simp only[evs];refine sA (cap:=cap) (t:=2) (p:=x%100000000/10000%100) (nd:=nd) F3.wf o3 d3 oM oM oM iX iX iS p2 ?_;intro h4 C4 o4 l4 d4 I;simp only[evs];refine sA (cap:=cap) (t:=3) (p:=x%100000000/10000/100) (nd:=nd) I.wf o4 d4 oM oM oM iX iX iS p3 ?_;intro h5 C5 o5 l5 R F5;simp(disch:=omega) only[evs,seval,fwrap_i64,g4];have U:=(((F.trans J w (fun y q=>.inl q) (fun y q=>.inl q)).trans F3 w (fun y q=>.inl q) (fun y q=>.inl q)).trans I w (fun y q=>.inl q) (fun y q=>.inl q)).trans F5 w (fun y q=>.inl q) (fun y q=>.inl q);refine rqn ⟨m-8,oM,m-8,x/100000000,C5,⟨U,o5,oM,?_,iX,?_,FB.div (j:=8) Z hm c,oM,hN,h20,FB.lt (j:=8) ux c⟩,iS,rfl⟩
   ·rw[<-QE,<-QE,<-QE]at R;have e8:=PU x;rw[<-QE,<-QE]at e8;rw[<-e8,FB.acc (j:=8) Z hm c]at R;exact R
   ·simp;omega
  ·simp only[evs,seval,g4,(oM:¬(8:Int)<=(m:Int))];refine Nw (cap:=cap) w ⟨F,o1,l,d,iX,iX,Z,hm,hN,h20,ux⟩ iX oM ?_;intro ab h' C' F' o' l' e';simp only[evs];exact⟨C',o',l',e',F'⟩
theorem yD{z:Str}(oC:Own h b C)(Z:(C.drop o).take n=z.map c8)(U:o+n<=C.length):nV h (.slice b o n cap)=some (.str z):=by
 have:aH h b o n=some (z.map c8):=by rw[oC.ld,bA,aU _ _ oO,Z]
 simp only[nV,this,tV,QG]
theorem rM(z:Str)(k k':IntKind)(a b:Int)(i j:Nat)(Z:a=i)(U:b=j)(h:i<=j)(R:j<=z.length):aP (.slstr true true) [.str z,.int k a,.int k' b]=some (.str ((z.drop i).take (j-i))):=by
 subst Z U;show(aO z.length z.length true true false [.int k i,.int k' j]).map _=_;simp only[aO,aY k' (j:Int) z.length oM oM,QX,so,aY k (i:Int) j oM oM,QG]
def dgT:List UInt8:=[48,49,50,51,52,53,54,55,56,57,97,98,99,100,101,102,103,104,105,106,107,108,109,110,111,112,113,114,115,116,117,118,119,120,121,122]
theorem Pa:∀i,i<10->(dgT.drop i).take 1=[UInt8.ofNat (48+i)]:=by decide+kernel
theorem ML:∀i,i<100->(smT.drop (2*i)).take 2=[UInt8.ofNat (48+i/10),UInt8.ofNat (48+i%10)]:=by decide+kernel
theorem y9{i:Nat}(Z:i<100):ay go 188 [ZZ (i:Int)] h fun u h'=>u=.str (dec i)/\h=h':=by
 by_cases c:i<10
 ·have s:=rM dgT .i64 .i64 (i:Int) ((i:Int)+1) i (i+1) rfl oM oM (by show i+1<=36;omega);rw[(oM:i+1-i=1),Pa i c]at s;unfold dgT at s;refine aa ?_;simp(disch:=omega) only[evs,seval,fwrap_i64,(oM:(i:Int)<10),s];rw[kD c]
 ·have s:=rM smT .i64 .i64 ((i:Int) *2) ((i:Int) *2+2) (2*i) (2*i+2) oM oM oM (by show 2*i+2<=200;omega);rw[(oM:2*i+2-2*i=2),ML i Z]at s;unfold smT at s;refine aa ?_;simp(disch:=omega) only[evs,seval,fwrap_i64,(oM:¬(i:Int)<10),s];rw[yj 2 i oM (.inl (by show 10<=i;omega)) oM,zq Z]
theorem slA(b n:Nat)(Z:n<=24)(k:IntKind):aP (.sl (some 24) 1 false true false) [.ptr b 0,.int k (n:Int)]=some (.slice b 0 n 24):=by
 simp only[aP,uo,aO,aY k (n:Int) 24 oM oM,QG,SX,dJ (oM:(24:Nat)≠0),cond_false,so,SN,RG,Sh]
theorem slB(b n:Nat)(U:n+1<=24)(k k':IntKind)(j:Int)(Z:j=((n+1:Nat):Int)):aP (.sl (some 24) 1 true true false) [.ptr b 0,.int k 1,.int k' j]=some (.slice b 1 n 23):=by
 subst Z;simp only[aP,uo,aO,aY k' ((n+1:Nat):Int) 24 oM oM,QX,so,aY k 1 (n+1) oM oM,QG,SX];have e:(1:Int).toNat=1:=rfl;rw[e,dJ (oM:(24:Nat)≠1)];simp
theorem Bn(d:ND u n):dec u=cP n u:=yj n u d.1 (.inl d.2.1) d.2.2.1
abbrev z24:List V:=[ZY 0,ZY 0,ZY 0,ZY 0,ZY 0,ZY 0,ZY 0,ZY 0,ZY 0,ZY 0,ZY 0,ZY 0,ZY 0,ZY 0,ZY 0,ZY 0,ZY 0,ZY 0,ZY 0,ZY 0,ZY 0,ZY 0,ZY 0,ZY 0]
theorem KN(w:WF h)(T:Tq h)(J:u<18446744073709551616):ay go 125 [ZX (u:Int),ZZ 10] h fun v h'=>v=.str (dec u)/\Fr [] h h':=by
 by_cases c:u<100
 ·have w1:aB .i64 (u:Int)=(u:Int):=fwrap_i64 _ oM oM;refine aa ?_;simp(disch:=omega)[evs,fwrap_i64,(oM:(u:Int)<100)];refine dm (y9 c) ?_;simp[evs];exact Qw w
 ·obtain⟨R,U⟩:∃R,R=halloc h z24:=⟨_,rfl⟩;have Z:=U▸QW w _;have o1:=U▸Ro w _;have T1:Tq R:=Z.pl 2 bS iS T;refine aa ?_;simp[evs,(oM:¬(u:Int)<100),<-U];refine ae (pG T1 J oM) ?_;rintro _ _ ⟨n,rfl,d,rfl⟩;have hn:=d.2.2.2;simp[evs,slA h.next n oM .i64];refine ae (pA Z.wf o1 J d.1 hn (by show 0+n<=24;omega)) ?_;rintro _ I ⟨C,o2,l2,e2,D⟩;have bs:nV I (.slice h.next 0 n 24)=some (.str (dec u)):=yD o2 (by rw[e2,Bn d]) (by rw[l2];show 0+n<=24;omega);simp[evs,slA h.next n oM .i64,xD,nI,bs];exact Z.fresh D w (pi _)
theorem CZ{v:Int}(w:WF h)(T:Tq h)(hv:i64 v):ay go 186 [ZZ v,ZZ 10] h fun u h'=>u=.str (qI v)/\Fr [] h h':=by
 obtain⟨v1,v2⟩:=hv;by_cases c:0<=v/\v<100
 ·obtain⟨n,rfl⟩:∃n:Nat,v=n:=⟨v.toNat,oM⟩;refine aa ?_;simp only[evs,seval,(oM:(0:Int)<=(n:Int)),(oM:(n:Int)<100)];refine dm (y9 oM) ?_;simp only[evs,seval];exact⟨by simp[qI,(oM:¬(n:Int)<0)],Qw w⟩
 ·obtain⟨J,R⟩:∃J,J=halloc h z24:=⟨_,rfl⟩;have Z:=R▸QW w _;have o1:=R▸Ro w _;have T1:Tq J:=Z.pl 2 bS iS T;by_cases s:v<0
  ·obtain⟨u,hu⟩:∃u:Nat,-v=u:=⟨(-v).toNat,oM⟩;have w1:aB .u64 (0-aB .u64 v)=(u:Int):=by
    rw[bq,bq];exact yp
   refine aa ?_;simp only[evs,seval,(oM:¬(0:Int)<=v),s,<-R,w1];refine ae (pG T1 (u:=u) oM oM) ?_;rintro _ _ ⟨n,rfl,d,rfl⟩;have I:=d.2.2.2;simp(disch:=omega) only[evs,seval,fwrap_i64,slB h.next n oM .i64 .i64 (1+(n:Int)) oM];refine ae (pA Z.wf o1 oM d.1 I (by show 1+n<=24;omega)) ?_;rintro _ h2 ⟨C,o2,l2,D,U⟩;have ix:aP (.ixa 24 1) [.ptr h.next 0,ZZ 0]=some (.ptr h.next 0):=by rw[iC _ _ _ _ _ _ oM oM];rfl
   have lC:C.length=24:=l2;simp only[evs,seval,ix,s];refine ac (c':=C.set 0 (c8 45)) U.wf o2 rfl rfl (kI C 0 _ oM) ?_;intro h3 o3 F3 n3;have bs:nV h3 (.slice h.next 0 (n+1) 24)=some (.str (qI v)):=by
    refine yD o3 ?_ oO;have:qI v=45::cP n u:=by unfold qI;rw[if_pos s,hu,so,Bn d]
    rw[this,QU,<-D];cases C with
    |nil=>simp at lC
    |cons y C=>simp
   simp(disch:=omega) only[evs,seval,fwrap_i64,slA h.next (n+1) oM .i64,(oM:(1+(n:Int))=((n+1:Nat):Int)),xD,nI,bs];exact(Z.fresh U w (pi _)).fresh F3 w (pi _)
  ·obtain⟨u,rfl⟩:∃u:Nat,v=u:=⟨v.toNat,oM⟩;have w1:aB .u64 (u:Int)=(u:Int):=fwrap_u64 _ oM oM;refine aa ?_;simp only[evs,seval,(oM:(0:Int)<=(u:Int)),(oM:¬(u:Int)<100),s,<-R,w1];refine ae (pG T1 (u:=u) oM oM) ?_;rintro _ _ ⟨n,rfl,d,rfl⟩;have I:=d.2.2.2;simp(disch:=omega) only[evs,seval,fwrap_i64,slB h.next n oM .i64 .i64 (1+(n:Int)) oM];refine ae (pA Z.wf o1 oM d.1 I (by show 1+n<=24;omega)) ?_;rintro _ h2 ⟨C,o2,l2,D,U⟩;have bs:nV h2 (.slice h.next 1 n 23)=some (.str (qI u)):=by
    refine yD o2 ?_ (by rw[l2];show 1+n<=24;omega);have:qI (u:Int)=cP n u:=by unfold qI;rw[if_neg s,so,Bn d]
    rw[this,D]
   simp(disch:=omega) only[evs,seval,fwrap_i64,slB h.next n oM .i64 .i64 (1+(n:Int)) oM,s,xD,nI,bs];exact Z.fresh U w (pi _)
theorem we(w:WF h)(T:Tq h)(Z:u<18446744073709551616):ay go 66 [ZX (u:Int),ZZ 10] h fun v h'=>v=.str (dec u)/\Fr [] h h':=by
 refine aa ?_;simp[evs];refine aN (KN w T Z) fun U F=>?_;simp[evs];exact F
theorem E9{v:Int}(w:WF h)(T:Tq h)(hv:i64 v):ay go 117 [ZZ v,ZZ 10] h fun u h'=>u=.str (qI v)/\Fr [] h h':=by
 exact ybe
end Go.Ev.Lay
namespace Go.Ev
variable{h:Heap}{b:Nat}
theorem Fr.tag{S:List Nat}{h':Heap}{ty n:Nat}(f:Fr S h h')(hb:h.next<=b):Fr S h (htag h' b ty n):=
 ⟨f.next,f.wf,f.own,f.pl,f.lp,f.ro,fun x y hx e=>by show(h'.tys.set b _).get x=_;rw[Qu _ _ oM];exact f.ty x y hx e⟩
theorem Hv{c:List V}(w:WF h)(a:Own h b c):∃h',vV h b=some h'/\Fr [b] h h':=by
 have hb:=a.lt w;obtain⟨f,k,e,x⟩:=a;have hf:f<h.next:=by
  exact yam
 have go:∀(I:Nat),(h.fams.get f=none/\f=b\/∃e,h.fams.get f=some (b,e))->Fr [b] h ⟨h.bl,h.next+1,h.fams.set f (h.next,I),h.tys⟩:=by
  intro I x;refine⟨TP _,?_,?_,?_,fun _ _ _ q=>q,?_,fun _ _ _ q=>q⟩
  ·intro p hp;have ab:h.next+1<=p:=hp;have:=w p oM;exact⟨this.1,by show(h.fams.set f _).get p=none;rw[Qu _ _ oM];exact this.2⟩
  ·rintro q d R ⟨f1,Z,J,x1⟩;simp at R;refine⟨f1,Z,J,?_⟩;have hne:f1≠f:=by grind
   exact yax
  ·rintro q d R ⟨⟨Z,J⟩,x1⟩;simp at R;refine⟨⟨Z,J⟩,?_⟩;show(h.fams.set f _).get q=none;rw[Qu _ _ ?_]
   ·exact x1
   ·grind
  ·rintro q y ⟨U,k',ow,p1,D,p3,p4⟩;have hne:U≠f:=by grind
   exact⟨U,k',ow,p1,by show(h.fams.set f _).get U=_;rw[Qu _ _ hne];exact D,p3,by show ow<h.next+1;omega⟩
 simp only[vV,e];rcases x with⟨x,rfl⟩|⟨e',x⟩
 ·rw[x];exact⟨_,rfl,go _ (.inl ⟨x,rfl⟩)⟩
 ·rw[x];simp only[Rk,cond_true];exact⟨_,rfl,go _ (.inr ⟨e',x⟩)⟩
theorem iM{call:aD}{loc:List V}{env:T V}(k:UK)(Z:List Opd)(K:V->Heap->Prop):OQ (aM call loc env h (.ux k Z)) K↔∃vs,eF loc env Z=some vs/\OQ (aux h k vs) K:=by
 simp only[aM];cases eF loc env Z with
 |none=>simp[OQ]
 |some vs=>simp
theorem eg{k:UK}{vs:List V}(K:V->Heap->Prop):(∃ws,some vs=some ws/\OQ (aux h k ws) K)↔OQ (aux h k vs) K:=⟨fun⟨_,e,q⟩=>by cases e;exact q,fun q=>⟨_,rfl,q⟩⟩
theorem Gj{o:Nat}{v:V}(e:ai h b o=some v):aux h .tou [.ptr b o]=some (.ptr b o,h):=by simp only[aux,Lp,e]
theorem Cr(v:V):aux h (.ext .same) [v]=some (v,h):=rfl
theorem Ct(e:h.tys.get b=some (83,2)):aux h (.fru [(83,2,0),(84,2,0),(85,2,0)]) [.ptr b 0]=some (.ptr b 0,h):=by
 have:Nat.blt 0 2=true:=rfl;simp only[aux,Lt,e,this,TE,Rk,RU,Bool.true_or,cond_true]
theorem LI(h:Heap)(b o:Nat):aux h .pe [.ptr b o,.ptr b o]=some (.bool false,h):=by simp only[aux,ape,Rk,RU,cond_true]
end Go.Ev
namespace Go.Ev.Lay
variable{S S0:List Nat}{h h' h1:Heap}{W' N Q:Nat->Prop}{v vK vE vY u:V}{Y:List Itm}{Z E O:List Ent}{Ks:List Knd}{x:Itm}{n0:NL}{C b p B:Nat}{K:V->Heap->Prop}
theorem wK:∀z:Str,Ev.bytes8 (z.map c8)=some z
 |[]=>rfl
 |b::z=>by
  show(bif Nat.blt b.toNat 256 then(match Ev.bytes8 (z.map c8)with|some s=>some (UInt8.ofNat b.toNat::s)|none=>none)else none)=_
  rw[(QJ ..).mpr b.toNat_lt,cond_true,wK z,UInt8.ofNat_toNat]
theorem xF:∀z:Str,az (z.map c8)=true
 |[]=>rfl
 |b::z=>by rw[QU,af,xF z];rfl
def Bv(h:Heap)(v:V)(z:Str):Prop:=(v=.nils/\z=[])\/∃bb,v=.sliceU bb 0 z.length 1/\0<z.length/\Own h bb (z.map c8)/\h.tys.get bb=some (5,0)
section
variable {h h' : Heap} {v : V} {z : Str}
theorem Bv.one(a:Bv h v z):v.one=true:=by rcases a with⟨rfl,_⟩|⟨b,rfl,_⟩<;>rfl
theorem Bv.cells(a:Bv h v z):v.cells=[v]:=by rcases a with⟨rfl,_⟩|⟨b,rfl,_⟩<;>rfl
theorem Bv.fr(w:WF h)(a:Bv h v z)(f:Fr S h h')(U:∀x∈vb v,x∉S):Bv h' v z:=by
 rcases a with⟨rfl,rfl⟩|⟨b,rfl,Z,o,t⟩
 ·exact .inl ⟨rfl,rfl⟩
 ·exact .inr ⟨b,rfl,Z,f.own b _ (U b (by simp[vb])) o,f.ty b _ (o.lt w) t⟩
theorem Bv.lt(w:WF h)(a:Bv h v z):∀x∈vb v,x<h.next:=by
 rcases a with⟨rfl,_⟩|⟨b,rfl,_,o,_⟩
 ·simp[vb]
 ·simpa[vb]using o.lt w
theorem Bv.append(w:WF h)(a:Bv h v z)(s:Str)(hs:2*(z.length+s.length)+1024<=281474976710656):
 ∃v' h',aux h (.apt 5 1 1) [v,.str s]=some (v',h')/\Bv h' v' (z++s)/\Fr (vb v) h h'/\(v'=v\/v'=.sliceU h.next 0 (z++s).length 1):=by
 show∃v' h',yH h 5 1 1 v (.str s)=_/\_;have U:Ev.srcLen (.str s)=some s.length:=rfl;by_cases R:s.length=0
 ·have:=List.eq_nil_of_length_eq_zero R;subst this;have Z:dK h 1 1 v (.str [])=some (v,h):=by
   unfold dK;rw[U];simp only[Rf,iw rfl,cond_true];rcases a with⟨rfl,rfl⟩|⟨b,rfl,_⟩<;>rfl
  refine⟨v,h,?_,by simpa using a,Qw w,.inl rfl⟩;unfold yH;rw[Z];rcases a with⟨rfl,rfl⟩|⟨b,rfl,_,o,_⟩
  ·rfl
  ·simp only[dJ (show b≠h.next by have:=o.lt w;omega),cond_false]
 ·have J:Ev.srcCells h 1 (.str s) s.length=some (s.map c8):=by
   exact yas
  rcases a with⟨rfl,rfl⟩|⟨b,rfl,h1,o,t⟩
  ·have D:Nat.ble ((2*s.length+1024) *1) 281474976710656=true:=by rw[RW];simp at hs;omega
   have Z:dK h 1 1 .nils (.str s)=some (.sliceU h.next 0 s.length 1,halloc h (s.map c8)):=by
    unfold dK;rw[U];simp only[dJ R,cond_false,J,kF,D,cond_true]
   refine⟨.sliceU h.next 0 s.length 1,htag (halloc h (s.map c8)) h.next 5 0,?_,.inr ⟨h.next,rfl,by simp;omega,?_,QZ _ _ _⟩,(QW w _).tag (pi _),.inr iS⟩
   ·unfold yH;rw[Z];simp only[Rk,cond_true]
   ·simpa using(show Own (htag (halloc h (s.map c8)) h.next 5 0) h.next (s.map c8)from Ro w (s.map c8))
  ·obtain⟨h',eh,I,f⟩:=iK (pos:=0+z.length*1) w o;have hb:=o.lt w;have g1:(Nat.beq 1 1&&Nat.ble ((2*(z.length+s.length)+1024) *1) 281474976710656)=true:=by simp only[Rk,RU,RW];omega
   have g2:(Nat.ble (0+z.length*1) (z.map c8).length&&az (s.map c8))=true:=by simp[xF]
   have Z:dK h 1 1 (.sliceU b 0 z.length 1) (.str s)=some (.sliceU h.next 0 (z.length+s.length) 1,h'):=by
    unfold dK;rw[U];simp only[dJ R,cond_false,J,g1,cond_true,o.cells,jG (oO:¬0+(z.length+s.length) *1<=(z.map c8).length),g2,cg,aU _ _ (iS:z.length*1<=(z.map c8).length)];rw[Qs iS,eh];rfl
   refine⟨.sliceU h.next 0 (z.length+s.length) 1,htag h' h.next 5 0,?_,.inr ⟨h.next,iS,by simp;omega,?_,QZ _ _ _⟩,f.tag (pi _),.inr iS⟩
   ·unfold yH;rw[Z];simp only[Rk,cond_true,t]
   ·rw[RL];exact(show Own (htag h' h.next 5 0) h.next (z.map c8++s.map c8)from I)
def Bd(h:Heap)(b:Nat)(v:V)(z:Str):Prop:=h.tys.get b=some (83,2)/\b∉vb v/\Bv h v z/\∃a,Own h b [a,v]/\(a=.nilp\/a=.ptr b 0)
def Bw(b:Nat)(v:V)(h h':Heap)(v':V):Prop:=Fr (b::vb v) h h'/\∀x∈vb v',x∈vb v\/h.next<=x
variable {b : Nat} {v1 v2 : V} {h1 h2 : Heap}
theorem Bw.trans(w:WF h)(a:Bw b v h h1 v1)(c:Bw b v1 h1 h2 v2):Bw b v h h2 v2:=
 ⟨a.1.trans c.1 w (fun _ m=>.inl m) (fun x m=>by
  rcases Qy.1 m with rfl|m
  ·exact .inl iS
  ·exact(a.2 x m).imp (fun q=>by simp[q]) id),
  fun x m=>(c.2 x m).elim (fun q=>a.2 x q) fun q=>.inr (QY a.1.next q)⟩
theorem Bw.fr(f:Fr [] h h')(w:WF h):Bw b v h h' v:=⟨f.trans (Qw (S:=[]) f.wf) w iS iS,fun _ m=>.inl m⟩
theorem Bd.fr(w:WF h)(B:Bd h b v z)(f:Fr [] h h'):Bd h' b v z:=by
 obtain⟨t,nv,U,a,o,Z⟩:=B;exact⟨f.ty _ _ (o.lt w) t,nv,U.fr w f iS,a,f.get o,Z⟩
theorem Bd.lt(w:WF h)(B:Bd h b v z):b<h.next:=by
 obtain⟨_,_,_,a,o,_⟩:=B;exact o.lt w
theorem Bd.new(w:WF h):Bd (htag (halloc h [.nilp,.nils]) h.next 83 2) h.next .nils []/\Fr [] h (htag (halloc h [.nilp,.nils]) h.next 83 2):=
 ⟨⟨QZ _ _ _,by simp[vb],.inl ⟨rfl,rfl⟩,.nilp,(show Own _ _ _ from Ro w _),.inl rfl⟩,(QW w _).tag (pi _)⟩
theorem yu(w:WF h)(B:Bd h b v z):ay go 129 [.ptr b 0] h fun u h'=>u=.tup []/\Bd h' b v z/\Fr [b] h h':=by
 obtain⟨t,nv,R,a,o,rfl|rfl⟩:=B
 ·have Z:=o.l1 0;have q:aP (.nil 0 false) [.nilp,.nilp]=some (.bool true):=rfl;refine aa ?_;simp[evs,Z,q,iM,eg,Gj Z,Cr,Ct t];refine stu w o ?_;intro J o2 U I;simp only[evs];exact⟨⟨U.ty _ _ (o.lt w) t,nv,R.fr w U (fun x hx m=>nv (by simp at m;exact m▸hx)),_,o2,.inr rfl⟩,U⟩
 ·have Z:=o.l1 0;have q:aP (.nil 0 false) [.ptr b 0,.nilp]=some (.bool false):=rfl;refine aa ?_;simp[evs,Z,q,iM,eg,LI];exact⟨⟨t,nv,R,_,o,.inr rfl⟩,Qw w⟩
theorem cG{s:Str}(w:WF h)(B:Bd h b v z)(hs:2*(z.length+s.length)+1024<=281474976710656):
 ay go 68 [.ptr b 0,.str s] h fun u h'=>u=.tup [ZZ (s.length:Int),.nili]/\∃v',Bd h' b v' (z++s)/\Bw b v h h' v':=by
 refine aa ?_;simp[evs];refine ae (yu w B) ?_;rintro _ h1 ⟨rfl,⟨t,nv,D,a,o,ha⟩,F⟩;have l1:=o.l1 1;obtain⟨v',h2,e2,Z,U,I⟩:=D.append F.wf s hs;have o2:=U.own b _ nv o;simp[evs,l1,iM,eg,e2];refine ac U.wf o2 (by rw[Z.cells];rfl) (by rw[Z.cells,af,Z.one];rfl) (by rw[Z.cells];rfl) ?_;intro h3 o3 J n3;simp[evs,(iR:aP .lenStr [.str s]=some (ZZ (s.length:Int)))];have nn:=F.next;have R:b∉vb v':=by
  rcases I with rfl|rfl
  ·exact nv
  ·have:=o.lt F.wf;simp[vb];omega
 refine⟨v',⟨J.ty _ _ (o2.lt U.wf) (U.ty _ _ (o.lt F.wf) t),R,Z.fr U.wf J (fun x hx m=>R (by simp at m;exact m▸hx)),a,o3,ha⟩,?_,?_⟩
 ·exact(F.trans U w (fun x m=>.inl (by simp at m;simp[m])) (fun x m=>.inl (QO _ m))).trans J w (fun x m=>.inl m) (fun x m=>.inl (by simp at m;simp[m]))
 ·intro x m;rcases I with rfl|rfl
  ·exact .inl m
  ·simp[vb]at m;exact .inr oM
theorem uI(B:Bd h b v z):ay go 30 [.ptr b 0] h fun u h'=>u=ZZ (z.length:Int)/\h=h':=by
 obtain⟨t,nv,Z,a,o,U⟩:=B;have l1:=o.l1 1;rcases Z with⟨rfl,rfl⟩|⟨bb,rfl,R,o2,t2⟩
 ·refine aa ?_;simp only[evs,↓reduceIte,Nat.reduceEqDiff,l1];rfl
 ·refine aa ?_;simp only[evs,↓reduceIte,Nat.reduceEqDiff,l1]
theorem eA(w:WF h)(B:Bd h b v z)(hz:z.length<9223372036854775808):ay go 31 [.ptr b 0] h fun u h'=>u=.str z/\Fr (b::vb v) h h':=by
 obtain⟨t,nv,I,a,o,ha⟩:=B;have l1:=o.l1 1;rcases I with⟨rfl,rfl⟩|⟨bb,rfl,D,o2,t2⟩
 ·have Z:aux h .sd [.nils]=some (.nilp,h):=rfl;have U:aux h (.us 5) [.nilp,ZZ 0]=some (.str [],h):=rfl;refine aa ?_;simp[evs,DF,eff,l1,iM,eg,Z,U];exact Qw w
 ·obtain⟨J,e2,R⟩:=Hv w o2;have Z:aux h .sd [.sliceU bb 0 z.length 1]=some (.ptr bb 0,h):=by
   obtain⟨m,hm⟩:∃m,z.length=m+1:=⟨z.length-1,oM⟩;rw[hm];rfl
  have U:aux h (.us 5) [.ptr bb 0,ZZ (z.length:Int)]=some (.str z,J):=by
   show(bif Nat.blt 0 z.length&&Nat.blt z.length 9223372036854775808 then _ else none)=_;have g1:=(QJ ..).mpr D;have g2:=(QJ ..).mpr hz;simp only[g1,g2,Sb,cond_true,t2,Rk,o2.ld,cg,aU _ _ (iS:z.length<=(z.map c8).length)];rw[Qs iS,wK];simp only[e2]
  refine aa ?_;simp[evs,DF,eff,l1,iM,eg,Z,U];exact R.trans (Qw (S:=[]) R.wf) w (fun x m=>.inl (by simp at m;simp[m,vb])) iS
end
open Go.Ev.St
structure Nt where
 n:Ntc
 v:V
def Nt.cells(x:Nt):List V:=[ZY (x.n.k:Int),ZZ x.n.a,ZZ x.n.c,ZZ x.n.t,x.v]
theorem fJ(x:Nt):x.cells.length=5:=rfl
def NV(W:Nat->Prop)(h:Heap)(v:V)(L:List Nt):Prop:=(∀(Z:List Nat)(h':Heap),(∀z∈Z,W z\/h.next<=z)->Fr Z h h'->ARecs Nt.cells 5 h' v L)/\∀x∈L,SV W h x.v x.n.Y/\x.n.k<256/\i64 x.n.a/\i64 x.n.c/\i64 x.n.t
theorem WZ.fr{W:Nat->Prop}(f:Fr [] h h'):WZ W h h':=⟨[],iS,f⟩
theorem WZ.trans{W:Nat->Prop}{U:Heap}(w:WF h)(a:WZ W h h1)(b:WZ W' h1 U)(i:∀y,W' y->W y\/h.next<=y):WZ W h U:=by
 obtain⟨Z,I,f⟩:=a;obtain⟨D,R,J⟩:=b;have n:=f.next;refine⟨Z++D,fun z m=>?_,Qx f J w (fun x m=>.inl (Qp.2 (.inl m))) (fun x m=>.inl (Qp.2 (.inr m)))⟩;rcases Qp.1 m with m|m
 ·exact I z m
 ·grind
theorem SV.on{W W':Nat→Prop}{h h':Heap}{v:V}{Y:List Itm}(s:SV W h v Y)(w:WF h)(f:WZ W h h')(i:∀y,W' y→W y∨h.next≤y):SV W' h' v Y:=by
 obtain⟨Z0,hZ0,f⟩:=f;have n:=f.next;intro Z h2 hZ f2;refine s (Z0++Z) h2 (fun z m=>?_) (Fr.trans f f2 w (fun x m=>.inl (List.mem_append.2 (.inl m))) (fun x m=>.inl (List.mem_append.2 (.inr m))));rcases List.mem_append.1 m with m|m
 ·exact hZ0 z m
 ·grind
theorem NV.on{W:Nat->Prop}{L:List Nt}(s:NV W h v L)(w:WF h)(f:WZ W h h')(i:∀y,W' y->W y\/h.next<=y):NV W' h' v L:=by
 refine⟨?_,fun x m=>⟨(s.2 x m).1.on w f i,(s.2 x m).2⟩⟩;obtain⟨J,U,f⟩:=f;have n:=f.next;intro Z R I f2;refine s.1 (J++Z) R (fun z m=>?_) (Qx f f2 w (fun x m=>.inl (Qp.2 (.inl m))) (fun x m=>.inl (Qp.2 (.inr m))));rcases Qp.1 m with m|m
 ·exact U z m
 ·grind
theorem Nt.one{W:Nat->Prop}{x:Nt}(w:WF h)(s:SV W h x.v x.n.Y):az x.cells=true:=by
 have:=ASl.one (s [] h iS (Qw w)).1;show az [_,_,_,_,_]=true;simp only[af,ag,this];rfl
structure DB(h0:Heap)(Ks:List Knd)(vK vE:V)(E:List Ent):Prop where
 w:WF h0
 rk:Recs Knd.cells 9 h0 vK Ks
 kh:∀q∈Ks,KndH h0 q
 re:Recs Ent.cells 6 h0 vE E
 o:LOk Ks h0 E
theorem LsO.keep{N:Nat}(a:LsO N h v Z)(f:Fr S h h')(l:∀y∈S,y<N):LsO N h' v Z:=by
 rcases a with e|⟨b,e,U,o,c⟩
 ·exact .inl e
 ·exact .inr ⟨b,e,U,f.own _ _ (fun m=>by have:=l b m;omega) o,fun z m=>(c z m).fr f fun y q=>by have:=l y q;omega⟩
theorem LsO.le{N M:Nat}(a:LsO N h v Z)(l:M<=N):LsO M h v Z:=by
 rcases a with e|⟨b,e,U,o,c⟩
 ·exact .inl e
 ·exact .inr ⟨b,e,QY l U,o,c⟩
theorem LsO.itm{N:Nat}{R:Heap}(a:LsO N h v Z)(i:∀z∈Z,ItmH R z.x):∀z∈Z,ItmH h z.x:=by
 intro z m;rcases a with⟨e,_⟩|⟨b,e,J,o,c⟩
 ·grind
 ·have U:=i z m;exact⟨U.k,U.t,Sl.a (c z m).rs,U.n,U.l⟩
theorem LsO.nE{N:Nat}(a:LsO N h v Z):v≠.sliceE:=by
 rcases a with⟨_,rfl⟩|⟨b,rfl,_⟩<;>simp
theorem DB.fr{h0:Heap}(d:DB h0 Ks vK vE E)(f:Fr [] h0 h):DB h Ks vK vE E:=⟨f.wf,QI d.rk f,fun q m=>(d.kh q m).fr f,d.re.fr f,d.o.fr f⟩
theorem CV{y:Itm}(h:x.val=y.val):(∀n,okI x n=okI y n)/\di Ks x=di Ks y:=by
 obtain⟨k,t,tx,m,v⟩:=x;obtain⟨k',J,Z,U,R⟩:=y;simp only[Itm.val,Re]at h;obtain⟨rfl,rfl,rfl,rfl⟩:=h;exact⟨fun _=>rfl,rfl⟩
theorem yQ(e:Z.map Ent.val=E.map Ent.val):lT Z=lT E:=by
 have:=congrArg (List.map fun p=>p.1.1) e;rw[To,To]at this;exact this
theorem JT(e:Z.map Ent.val=E.map Ent.val):∀z∈Z,∃x∈E,x.x.val=z.x.val/\x.b=z.b/\x.kn=z.kn:=by
 intro z m;have:=e▸Tn.2 ⟨z,m,rfl⟩;obtain⟨x,U,h⟩:=Tn.1 this;simp only[Ent.val,Re]at h;exact⟨x,U,h⟩
theorem LV.val(o:LV Ks E)(e:Z.map Ent.val=E.map Ent.val):LV Ks Z:=by
 refine⟨fun z m=>?_,fun z m k=>?_,fun z m k=>?_,by rw[yQ e];exact o.n⟩<;>obtain⟨x,U,R,I,J⟩:=JT e z m
 ·have:=o.o x U;rw[<-Hb R,<-(CV (Ks:=Ks) R).1];exact this
 ·rw[<-I,<-(CV (Ks:=Ks) R).2];exact o.b x U (J.trans k)
 ·rw[<-I];exact o.c x U (J.trans k)
def NA(h:Heap)(v:V)(L:List Nt):Prop:=ARecs Nt.cells 5 h v L/\∀x∈L,(ARecs Itm.cells 4 h x.v x.n.Y/\∀y∈x.n.Y,ItmH h y)/\x.n.k<256/\i64 x.n.a/\i64 x.n.c/\i64 x.n.t
theorem NA.fr{L:List Nt}(a:NA h v L)(f:Fr [] h h'):NA h' v L:=⟨a.1.fr f,fun x m=>⟨⟨(a.2 x m).1.1.fr f,fun y q=>((a.2 x m).1.2 y q).fr f⟩,(a.2 x m).2⟩⟩
theorem NA.one{L:List Nt}(a:NA h v L){x:Nt}(m:x∈L):az x.cells=true:=by
 have:=ASl.one (a.2 x m).1.1;show az [_,_,_,_,_]=true;simp only[af,ag,this];rfl
def NR(h:Heap)(v:V)(L:List Nt):Prop:=ARecs Nt.cells 5 h v L/\L.length<140737488355328/\∀x∈L,ARecs Itm.cells 4 h x.v x.n.Y/\x.n.Y.length<140737488355328/\∀y∈x.n.Y,ARecs sS 1 h y.vm y.marks/\y.marks.length<140737488355328/\y.text.length<140737488355328
def Qc(y:Itm):Prop:=y.text.length<=70/\y.marks.length<=12
theorem Fr.lt(w:WF h)(f:Fr S h h'):Fr (S.filter fun z=>decide (z<h.next)) h h':=
 ⟨f.next,f.wf,fun x c hx o=>f.own x c (fun m=>hx (SJ.2 ⟨m,decide_eq_true (o.lt w)⟩)) o,fun x c hx o=>f.pl x c (fun m=>hx (SJ.2 ⟨m,decide_eq_true (o.own.lt w)⟩)) o,f.lp,f.ro,f.ty⟩
def KL(a:Nat)(h:Heap)(v:V)(Z:List Ent):Prop:=∀S h',(∀z∈S,z<a\/h.next<=z)->Fr S h h'->Recs Ent.cells 6 h' v Z/\∀e∈Z,ItmH h' e.x
theorem Drawn.kl{N:Nat}{X:List Itm}(d:Drawn N h.next h Ks vE X E):KL N h vE E:=fun _ _ hS f=>⟨(d.keep f hS).rs,(d.keep f hS).H⟩
theorem LsO.kl{N:Nat}(w:WF h)(a:LsO N h v Z)(i:∀z∈Z,ItmH h z.x):KL N h v Z:=by
 intro S h' hS f;have q:=a.keep (Fr.lt w f) fun y m=>by grind
 exact⟨q.rs,q.itm i⟩
theorem SW.a{W:Nat->Prop}(s:SW n0 W C Ks h b E):SA Ks h b E:=by
 obtain⟨K,X,st,vK,J,B,R,S,bl,U,Z,s,I,ev,ix,_⟩:=s;exact⟨n0,K,X,st,vK,J,B,R,S,bl,U,Z,s,I,ev,fun _ _=>rfl,sU.2 ix⟩
theorem SW.lt{W:Nat->Prop}(w:WF h)(s:SW n0 W C Ks h b E):SW n0 (fun y=>W y/\y<h.next) C Ks h b E:=by
 obtain⟨K,X,st,vK,J,B,R,S,bl,U,Z,s,I,ev,ix,c,r⟩:=s;exact⟨K,X,st,vK,J,B,R,S,bl,U,Z,s,I,ev,ix,c,fun y m=>⟨r y m,s.wrlt w y m⟩⟩
theorem SA.val(s:SA Ks h b E)(e:Z.map Ent.val=E.map Ent.val):SA Ks h b Z:=by
 obtain⟨n0,K,X,st,vK,D,B,J,S,bl,R,U,s,sk,ev,nz,ix⟩:=s;have I:Z.map Ent.b=E.map Ent.b:=by have:=congrArg (List.map fun p=>p.2.1) e;rw[To,To]at this;exact this
 have e2:Z.map Ent.kn=E.map Ent.kn:=by have:=congrArg (List.map fun p=>p.2.2) e;rw[To,To]at this;exact this
 have e3:Z.map (fun e=>e.x.val)=E.map (fun e=>e.x.val):=by have:=congrArg (List.map fun p=>p.1) e;rw[To,To]at this;exact this
 have ek:=yQ e;refine⟨n0,K,X,st,vK,D,B,J,S,bl,R,U,I▸e2▸s,sk,e3▸ev,nz,?_⟩;have:=sU.1 ix;exact sU.2 (show IxL U.1 (lT Z) by rw[ek];exact this)
theorem SA.fr(w:WF h)(s:SA Ks h b E)(f:Fr [] h h'):SA Ks h' b E:=by
 exact yav
structure NQ(h:Heap)(v:V)(L:List Nt):Prop where
 rd:∀S h',Fr S h h'->NR h' v L
 ty:∀x∈L,x.n.k<256/\i64 x.n.a/\i64 x.n.c/\i64 x.n.t/\∀y∈x.n.Y,y.key<18446744073709551616/\y.type<256
theorem NQ.nv{W:Nat->Prop}{h0:Heap}{L:List Nt}(a:NQ h0 v L)(R:Fr S0 h0 h)(w:WF h0)(U:∀x∈L,∀y∈x.n.Y,Qc y):NV W h v L:=by
 have q:=fun S h' f=>a.rd (S0++S) h' (Qx R f w (fun x m=>.inl (Qp.2 (.inl m))) (fun x m=>.inl (Qp.2 (.inr m))));refine⟨fun S h' _ f=>(q S h' f).1,fun x m=>⟨fun S h' _ f=>?_,(a.ty x m).1,(a.ty x m).2.1,(a.ty x m).2.2.1,(a.ty x m).2.2.2.1⟩⟩;obtain⟨r1,_,r2⟩:=(q S h' f).2.2 x m;refine⟨r1,fun y Z=>?_⟩;obtain⟨t1,t2⟩:=(a.ty x m).2.2.2.2 y Z;obtain⟨f1,f2⟩:=U x m y Z;exact⟨t1,t2,(r2 y Z).1,oM,oM⟩
theorem NV.na{W:Nat->Prop}{L:List Nt}(w:WF h)(n:NV W h v L):NA h v L:=⟨n.1 [] h iS (Qw w),fun x m=>⟨(n.2 x m).1 [] h iS (Qw w),(n.2 x m).2⟩⟩
theorem Sto.skip{x:V}{J R S bl:Nat}{cap:Int}{X:List Itm}{l:List Int}{kn st:List Bool}{U:Option Nat}{I:pQ}(w:WF h)(s:Sto n0 h b Ks cap X l kn st vK J B R S bl U I)(o:Own h p [x])(D:p∉Wr b J B R S bl U)(lp:Lx n0 p)(f:Fr [p] h h'):
 Sto n0 h' b Ks cap X l kn st vK J B R S bl U I:=by
 have g:∀{y},y∈Wr b J B R S bl U->y∉[p]:=fun m q=>D (RF.1 q▸m);have n:=f.next;refine⟨f.own _ _ (g (by simp[Wr])) s.ob,s.g.fr f (g (by simp[Wr])) (g (by simp[Wr])),s.gB.fr f (g (by simp[Wr])),s.k.frS f (g (by simp[Wr])) (g (by simp[Wr])),s.gS.fr f (g (by simp[Wr])),
  s.lo.frS f (Oth.own o iS (jW (n:=0) rfl)) (g (by simp[Wr])) (fun q e=>g (by simp[Wr,e])),s.len,fun Z h2 hZ f2=>?_,s.d,by have:=s.Sl';omega,fun q e=>by have:=s.pl q e;omega,by have:=s.bl';omega,fun z q=>by have:=s.n0l z q;omega⟩
 refine s.rd ([p]++Z) h2 (fun z m=>?_) (Qx f f2 w (fun x m=>.inl (Qp.2 (.inl m))) (fun x m=>.inl (Qp.2 (.inr m))));rcases Qp.1 m with m|m
 ·grind
 ·grind
theorem SW.skip{x:V}{W:Nat->Prop}(w:WF h)(s:SW n0 W C Ks h b E)(o:Own h p [x])(D:¬W p)(lp:Lx n0 p)(f:Fr [p] h h'):SW n0 W C Ks h' b E:=by
 obtain⟨K,X,st,vK,J,B,R,S,bl,U,Z,s,I,ev,ix,c,r⟩:=s;exact⟨K,X,st,vK,J,B,R,S,bl,U,Z,s.skip w o (fun m=>D (r p m)) lp f,I,ev,ix,c,r⟩
theorem vO(c:Bool):ay go 292 [.bool c] h fun u h'=>h=h'/\u=ZZ (if c then 1 else 0):=by
 cases c
 ·refine aa ?_;simp[evs]
 ·refine aa ?_;simp[evs]
theorem kP{a c:Int}{n:Nat}(hn:n<=4096)(D:i64 a)(I:i64 c):ay go 281 [ZZ a,ZZ c,ZZ (n:Int)] h fun u h'=>h=h'/\u=ZZ (if 0<=a/\a<=n/\0<=c/\c<=n-a then 1 else 0):=by
 obtain⟨a1,a2⟩:=D;obtain⟨c1,c2⟩:=I;by_cases Z:0<=a
 ·by_cases U:a<=n
  ·by_cases R:0<=c
   ·by_cases J:c<=n-a
    ·refine aa ?_;simp(disch:=omega) only[evs,seval,fwrap_i64,Z,U,R,J];refine ae (vO true) ?_;rintro _ _ ⟨rfl,rfl⟩;simp only[evs,seval]
    ·refine aa ?_;simp(disch:=omega) only[evs,seval,fwrap_i64,Z,U,R,J];refine ae (vO false) ?_;rintro _ _ ⟨rfl,rfl⟩;simp only[evs,seval]
   ·refine aa ?_;simp only[evs,seval,Z,U,R];exact y1
  ·refine aa ?_;simp only[evs,seval,Z,U];exact y1
 ·refine aa ?_;simp only[evs,seval,Z];exact y1
theorem I6(r:RK Ks){x:Itm}(o:okI x 3=true):(1<=di Ks x/\di Ks x<=64)/\x.type<3:=by
 have:=r.base o;refine⟨⟨this.1,oM⟩,?_⟩;simp only[okI,be,decide_eq_true_eq]at o;exact o.2.1
def In64(l:List Int):Prop:=∀x∈l,1<=x/\x<=64
theorem LJ:∀{L:List Int},(∀x∈L,1≤x∧x≤64)→0≤L.sum∧L.sum≤64*L.length
 |[],_=>by simp
 |x::L,h=>by
  have h1:=h x iS;have h2:=LJ (L:=L) fun y m=>h y iX;simp only[List.sum_cons,List.length_cons];omega
theorem In64.okZ(a:In64 (E.map Ent.b)):okZ E:=fun e m=>by have:=a e.b (Tn.2 ⟨e,m,rfl⟩);omega
theorem In64.ub(a:In64 (E.map Ent.b))(i:Nat):((E.take i).map Ent.b).sum<=64*i:=by
 have:=(LJ (L:=(E.take i).map Ent.b) fun x m=>a x (by rw[List.map_take]at m;exact QP m)).2;rw[List.length_map,QN]at this;omega
theorem ES{cap:Int}(w:WF h)(rk:Recs Knd.cells 9 h vK Ks)(hK:Ks.length<256)(a:ItmH h x):
 ay go 282 [.agg [vK,ZZ cap],.agg x.cells,ZZ 1] h fun u h'=>Fr [] h h'/\∃e:Int,u=ZZ e/\0<e:=by
 have v1:=RI rk;obtain⟨h1,R,J,ab⟩:=av w [vK,ZZ cap];obtain⟨h2,I,U,D⟩:=av J.wf x.cells;have n1:=hnx R
 have Z:=J.then U;have oc:=U.get ab;have c0{h'}(f:Fr [] h2 h'):=(f.get oc).l1 0;have i4{h'}(f:Fr [] h2 h'):=(f.get D).la 4
 have r0:Fr [] h2 h2:=Qw Z.wf;refine aa ?_;simp only[evs,seval,<-R,<-I,i4 r0,c0 r0,(QI rk Z).len];refine aN (pK Z.wf (a.fr Z) hK) fun h3 F3=>?_;cases d1:okI x Ks.length
 ·simp only[evs,seval];exact⟨Z.then F3,6,rfl,oM⟩
 ·simp only[evs,seval];exact⟨Z.then F3,8,rfl,oM⟩
abbrev Z4i:List V:=[ZZ 0,ZZ 0,ZZ 0,ZZ 0]
abbrev u4(a b c d:Int):List V:=[ZZ a,ZZ b,ZZ c,ZZ d]
theorem JU{k:Nat}(w:WF h):ay go 118 [ZY (k:Int)] h fun u h'=>Fr [] h h'/\∃a b c d:Int,u=.agg (u4 a b c d):=by
 obtain⟨U,Z,F_h1,o_h1⟩:=av w Z4i;have fin{x:List V}{h2}(o:Own h2 h.next x)(f:Fr [h.next] U h2):=F_h1.fresh f w (pi _);by_cases c1:k=1
 ·refine aa ?_;simp only[evs,seval,<-Z,eq_true (oM:(k:Int)=1)];exact ye
 by_cases c4:k=4
 ·refine aa ?_;simp only[evs,seval,<-Z,eq_false (oM:¬(k:Int)=1),eq_true (oM:(k:Int)=4)];exact ye
 by_cases c2:k=2
 ·refine aa ?_;simp only[evs,seval,<-Z,eq_false (oM:¬(k:Int)=1),eq_false (oM:¬(k:Int)=4),eq_true (oM:(k:Int)=2)];exact ye
 by_cases c3:k=3
 ·refine aa ?_;simp only[evs,seval,<-Z,eq_false (oM:¬(k:Int)=1),eq_false (oM:¬(k:Int)=4),eq_false (oM:¬(k:Int)=2),eq_true (oM:(k:Int)=3)];exact ye
 by_cases c5:k=5
 ·refine aa ?_;simp only[evs,seval,<-Z,eq_false (oM:¬(k:Int)=1),eq_false (oM:¬(k:Int)=4),eq_false (oM:¬(k:Int)=2),eq_false (oM:¬(k:Int)=3),eq_true (oM:(k:Int)=5)];exact ye
 refine aa ?_;simp only[evs,seval,<-Z,eq_false (oM:¬(k:Int)=1),eq_false (oM:¬(k:Int)=4),eq_false (oM:¬(k:Int)=2),eq_false (oM:¬(k:Int)=3),eq_false (oM:¬(k:Int)=5)];exact ye
theorem wv{x:Nt}(w:WF h)(r:Recs Itm.cells 4 h x.v x.n.Y)(hk:x.n.k<256):ay go 56 [.agg x.cells] h fun u h'=>Fr [] h h'/\∃t:Int,u=ZZ t/\0<=t:=by
 have v1:=RI r;obtain⟨h1,J,Z,U⟩:=av w x.cells;have n1:=hnx J
 have c0{h'}(f:Fr [] h1 h'):=(f.get U).l1 0;have r0:Fr [] h1 h1:=Qw Z.wf;have x1:az x.cells=true:=by show az [_,_,_,_,x.v]=true;simp only[af,ag,v1];rfl
 by_cases k1:x.n.k<1
 ·refine aa ?_;simp only[evs,seval,<-J,c0 r0,eq_true (oM:(x.n.k:Int)<1)];exact⟨Z,1,rfl,oM⟩
 by_cases k5:5<x.n.k
 ·refine aa ?_;simp only[evs,seval,<-J,c0 r0,eq_false (oM:¬(x.n.k:Int)<1),eq_true (oM:5<(x.n.k:Int))];exact⟨Z,1,rfl,oM⟩
 refine aa ?_;simp only[evs,seval,<-J,c0 r0,eq_false (oM:¬(x.n.k:Int)<1),eq_false (oM:¬5<(x.n.k:Int))];refine ae (JU Z.wf) ?_;rintro _ h2 ⟨F2,ua,ub,uc,ud,rfl⟩;obtain⟨h3,ah,ab,aj⟩:=av F2.wf Z4i;simp only[evs,seval,<-ah];refine ac ab.wf aj rfl rfl rfl ?_;rintro h4 o4 F4 n4;have n2:=F2.next;have ak:=ab.fresh F4 F2.wf (pi _);have ad:=F2.then ak;simp only[evs];refine aw (fun n env hh=>Fr [] h4 hh/\∃i:Nat,env.get 4=some (ZZ i)/\env.get 1=some (.ptr h.next 0)/\env.get 3=some (.ptr h2.next 0)/\i<=4/\n=4-i) 4 oM ?_ ?_
 ·exact⟨Qw F4.wf,0,iS,iS,iS,oM,rfl⟩
 ·rintro n env hh ⟨F,i,g4,g1,g3,hi,rfl⟩;by_cases c:i<4
  ·have xa:=iC 1 h2.next 0 4 .i64 (i:Int) oM oM;simp only[so,Sj,Rc]at xa;obtain⟨ui,lu⟩:∃ui:Int,ai hh h2.next i=some (ZZ ui):=by
    have o:=F.get o4;rcases(by omega:i=0\/i=1\/i=2\/i=3)with rfl|rfl|rfl|rfl
    ·exact⟨ua,o.ld1 0⟩
    ·exact⟨ub,o.ld1 1⟩
    ·exact⟨uc,o.ld1 2⟩
    ·exact⟨ud,o.ld1 3⟩
   have Fx:=ad.then F;have e1:=(Fx.get U).l1 1;have e2:=(Fx.get U).l1 2;have e3:=(Fx.get U).l1 3;have e4:=(Fx.get U).l1 4;have len:=(QI r (Z.then Fx)).len;by_cases cu:ui=0
   ·subst cu;obtain⟨h5,I,D,R⟩:=av F.wf (u4 x.n.a x.n.c x.n.t (x.n.Y.length:Nat));have n5:=hnx I
    have u1:bF Z4i 0 (u4 x.n.a x.n.c x.n.t (x.n.Y.length:Nat))=some (u4 x.n.a x.n.c x.n.t (x.n.Y.length:Nat)):=rfl;obtain⟨z,lz⟩:∃z:Int,ai h5 hh.next i=some (ZZ z):=by
     rcases(by omega:i=0\/i=1\/i=2\/i=3)with rfl|rfl|rfl|rfl
     ·exact⟨_,R.ld1 0⟩
     ·exact⟨_,R.ld1 1⟩
     ·exact⟨_,R.ld1 2⟩
     ·exact⟨_,R.ld1 3⟩
    have xs:=bO 1 hh.next 0 4 4 .i64 (i:Int) oM oM;simp only[so,Sj,Rc]at xs;by_cases cz:z=0
    ·simp(disch:=omega) only[evs,seval,fwrap_i64,g4,g1,g3,(oM:(i:Int)<4),xa,lu,e1,e2,e3,e4,len,<-I,xs,lz,cz];refine rqn ⟨4-(i+1),oM,F.then D,i+1,iS,iX,iX,oM,rfl⟩
    ·simp only[evs,seval,g4,g1,g3,(oM:(i:Int)<4),xa,lu,e1,e2,e3,e4,len,<-I,xs,lz,eq_false cz];exact⟨(Z.then ad).then (F.then D),5,rfl,oM⟩
   ·simp(disch:=omega) only[evs,seval,fwrap_i64,g4,g3,(oM:(i:Int)<4),xa,lu,eq_false cu];refine rqn ⟨4-(i+1),oM,F,i+1,iS,iX,iX,oM,rfl⟩
  ·simp only[evs,seval,g4,(oM:¬(i:Int)<4)];exact⟨(Z.then ad).then F,0,rfl,oM⟩
theorem Ia(c:Bool):ay go 292 [.bool c] h fun u h'=>h=h'/\∃s:Int,u=ZZ s/\(s=0\/s=1):=by
 refine OQ.mono (vO c) ?_;rintro _ _ ⟨rfl,rfl⟩;exact⟨rfl,_,rfl,by cases c<;>simp⟩
def SE'(Ks:List Knd)(x:Itm)(s e:Int):Prop:=if s=0 then IE Ks 12 x e else 0<e
theorem mR{s:Int}(w:WF h)(rk:Recs Knd.cells 9 h vK Ks)(kh:∀q∈Ks,KndH h q)(r:RK Ks)(a:ItmH h x)(U:s=0\/s=1):
 ay go 282 [.agg [vK,ZZ 12],.agg x.cells,ZZ s] h fun u h'=>Fr [] h h'/\∃e:Int,u=ZZ e/\0<=e/\(e=0->okI x 3=true/\jK Ks 12 x=0)/\SE' Ks x s e:=by
 obtain⟨_,r3,R⟩:=r;rcases U with rfl|rfl
 ·have:=H9 (cap:=12) w rk kh R oM a;rw[r3]at this;exact this
 ·refine OQ.mono (ES w rk oM a) ?_;rintro _ _ ⟨F,e,rfl,Z⟩;exact⟨F,e,rfl,oM,fun z=>by omega,Z⟩
theorem SE'.pos{s e Z:Int}(a:SE' Ks x s e)(b:SE' Ks x s Z)(h:0<e):0<Z:=by
 unfold SE' at a b;split at a
 ·rename_i c;rw[if_pos c]at b;rw[<-a.det b];exact h
 ·grind
theorem dF{key:Nat}(a:Recs Ent.cells 6 h v E)(hE:E.length<=4096):
 ay go 158 [v,ZX (key:Int)] h fun u h'=>h=h'/\∃r:Int,u=ZZ r/\-1<=r/\r<E.length:=by
 refine aa ?_;simp only[evs,seval];refine aw (fun n env U=>h=U/\∃i:Nat,env.get 5=some (ZZ i)/\env.get 0=some v/\env.get 1=some (ZX (key:Int))/\i<=E.length/\n=E.length-i) E.length oM ?_ ?_
 ·exact ya2
 ·rintro n env U ⟨rfl,i,Z,g0,g1,D,rfl⟩;by_cases c:i<E.length
  ·obtain⟨b,o,e,p1,J,_,I⟩:=a.ix aJ .i64 (i:Int) oM oM;have R:ai h b o=some (ZX (e.x.key:Int)):=J 0 oM;by_cases ck:e.x.key=key
   ·simp only[evs,seval,Z,g0,g1,a.len,(oM:(i:Int)<E.length),p1,R,eq_true (oM:(e.x.key:Int)=key)];exact⟨_,rfl,oM,oM⟩
   ·simp(disch:=omega) only[evs,seval,fwrap_i64,Z,g0,g1,a.len,(oM:(i:Int)<E.length),p1,R,eq_false (oM:¬(e.x.key:Int)=key)];refine rqn ⟨E.length-(i+1),oM,rfl,i+1,iS,iX,iX,oM,rfl⟩
  ·simp only[evs,seval,Z,g0,a.len,(oM:¬(i:Int)<E.length)];exact⟨_,rfl,oM,oM⟩
theorem lU(w:WF h)(rk:Recs Knd.cells 9 h vK Ks)(kh:∀q∈Ks,KndH h q)(r:RK Ks)
 (re:Recs Ent.cells 6 h vE E) (hE:E.length<=4096) (ry:Recs Itm.cells 4 h vY Y) (iy:∀y∈Y,ItmH h y) (hY:Y.length<=4096) (nv:vY≠.sliceE):
 ay go 279 [.agg [vK,ZZ 12],vE,vY] h fun u h'=>Fr [] h h'/\∃t:Int,u=ZZ t/\0<=t/\(t=0->∀y∈Y,okI y 3=true):=by
 have v1:=RI rk;obtain⟨h1,U,R,ab⟩:=av w [vK,ZZ 12];have n1:=hnx U
 have oc:=ab;refine aa ?_;simp only[evs,seval,<-U];refine aw (fun n env hh=>Fr [] h1 hh/\∃i:Nat,env.get 7=some (ZZ i)/\env.get 1=some vE/\env.get 2=some vY/\env.get 3=some (.ptr h.next 0)/\i<=Y.length/\(∀y∈Y.take i,okI y 3=true)/\n=Y.length-i) Y.length oM ?_ ?_
 ·exact⟨Qw R.wf,0,iS,iS,iS,iS,oM,iS,rfl⟩
 ·rintro n env hh ⟨F,i,I,g1,g2,g3,hi,all,rfl⟩;have J:=R.then F;have Z:=QI ry J;by_cases c:i<Y.length
  ·obtain⟨b,o,y,p1,p2,p3,p4⟩:=Z.ix b8 .i64 (i:Int) oM oM;rw[so]at p4;have ym:=Of p4;have k0:ai hh b o=some (ZX (y.key:Int)):=p2 0 oM;have lK:=(F.get oc).la 2
   obtain⟨v',sl,ss⟩:=Ub Z oM nv .i64 (i:Int) oM oM;simp only[evs,seval,eff,I,g1,g2,Z.len,(oM:(i:Int)<Y.length),p1,k0];refine ae (dF (QI re J) hE) ?_;rintro _ _ ⟨rfl,r1,rfl,aF,a0⟩;have ao:Recs Itm.cells 4 hh v' (Y.take i):=by
    rw[so]at ss;have:(Y.take i).length=i:=by grind
    unfold Recs;rw[this,<-kQ b8];exact ss
   by_cases c1:0<=r1
   case' neg=>
    simp only[evs,seval,eff,I,g2,p1,k0,c1,sl];refine ae (In ao (by rw[QN];omega)) ?_;rintro _ _ ⟨rfl,r2,rfl,_⟩;simp only[evs,seval,eff]
   case' pos=>
    simp only[evs,seval,eff,c1]
   all_goals
    refine ae (Ia _) ?_;rintro _ _ ⟨rfl,s,rfl,hs⟩;simp only[evs,seval,DF,eff,I,g2,g3,p1,k0,lK,p3];refine ae (mR F.wf (QI rk J) (fun q m=>(kh q m).fr J) r ((iy y ym).fr J) hs) ?_;rintro _ h2 ⟨F2,e,rfl,e0,he,se⟩;have D:=J.then F2;obtain⟨b',o',y',ah,aA,ad,aj⟩:=(QI ry D).ix b8 .i64 (i:Int) oM oM;rw[so,p4]at aj;cases aj;rw[p1]at ah;cases ah;have ak:=((F.then F2).get oc).la 2
    by_cases ce:0<e
    ·simp only[evs,seval,DF,eff,I,g2,g3,p1,lK,p3,ak,ad,eq_true ce];refine ae (mR F2.wf (QI rk D) (fun q m=>(kh q m).fr D) r ((iy y ym).fr D) hs) ?_;rintro _ h3 ⟨F3,e',rfl,aR,_,ax⟩;have:=se.pos ax ce;obtain⟨b2,o2,y2,q1,q2,q3,q4⟩:=(QI ry (D.then F3)).ix b8 .i64 (i:Int) oM oM;rw[so,p4]at q4;cases q4;rw[p1]at q1;cases q1;have aE:=(((F.then F2).then F3).get oc).la 2
     simp only[evs,seval,DF,eff,g3,ak,ad];exact⟨D.then F3,e',rfl,oM,fun z=>by omega⟩
    ·simp(disch:=omega) only[evs,seval,DF,eff,fwrap_i64,I,g3,lK,p3,eq_false ce];refine rqn ⟨Y.length-(i+1),oM,F.then F2,i+1,iS,iX,iX,iX,oM,?_,rfl⟩;intro z m;rw[QS,p4]at m;rcases Qp.1 m with m|m
     ·exact all z m
     ·grind
  ·simp only[evs,seval,I,g2,Z.len,(oM:¬(i:Int)<Y.length)];rw[Qs oM]at all;exact⟨J,0,rfl,oM,fun _=>all⟩
def KQ(N:Nat->Prop)(h:Heap)(v:V)(Z:List Ent):Prop:=∀S h',(∀z∈S,N z\/h.next<=z)->Fr S h h'->Recs Ent.cells 6 h' v Z/\∀e∈Z,ItmH h' e.x
theorem nUp(a:∀z,N z->z<h.next)(f:Fr S h h'):∀z,N z->z<h'.next:=fun z m=>QH (a z m) f.next
def IS(N:Nat->Prop)(h0:Heap)(x:Itm):Prop:=∀S h',(∀z∈S,N z\/h0.next<=z)->Fr S h0 h'->ItmH h' x
theorem IS.up(a:IS N h x)(w:WF h)(f:Fr S0 h h1)(h0:∀z∈S0,N z\/h.next<=z):IS N h1 x:=fun S h' hS f'=>
 a (S0++S) h' (fun z m=>by
  have:=f.next;rcases Qp.1 m with m|m
  ·exact h0 z m
  ·rcases hS z m with q|q
   ·exact .inl q
   ·exact .inr oM) (Qx f f' w (fun x m=>.inl (Qp.2 (.inl m))) (fun x m=>.inl (Qp.2 (.inr m))))
theorem KQ.up(a:KQ N h v E)(w:WF h)(f:Fr [] h h1):KQ N h1 v E:=fun S h' hS f'=>
 a S h' (fun z m=>by have:=f.next;rcases hS z m with q|q;exact .inl q;exact .inr oM) (Qx f f' w iS (fun x m=>.inl m))
theorem KQ.is(a:KQ N h v E){e:Ent}(m:e∈E):IS N h e.x:=fun S h' hS f=>(a S h' hS f).2 e m
theorem KQ.rs(a:KQ N h v E)(w:WF h):Recs Ent.cells 6 h v E:=(a [] h iS (Qw w)).1
theorem KQ.itm(a:KQ N h v E)(w:WF h):∀e∈E,ItmH h e.x:=(a [] h iS (Qw w)).2
theorem KQ.fin(w:WF h1)(hN:∀z,N z->z<h1.next)(F:Fr [] h1 h')(g:Gs h' h1.next 6 u (O.flatMap Ent.cells))(i:∀e∈O,IS N h1 e.x):KQ N h' u O:=by
 intro S Z hS f;have n:=F.next;refine⟨SM (g.dj f fun z m c=>?_) (au aJ _) oM,fun e m=>(i e m).up w F iS S Z hS f⟩;have:=g.vb z c;have:=g.lt F.wf z c;rcases hS z m with q|q
 ·grind
 ·omega
theorem KQ.nil:KQ N h .nils []:=fun _ _ _ _=>⟨SH,iS⟩
theorem eP{h0 J:Heap}{e:Ent}(w:WF h0)(F:Fr [] h0 J)(g:Gs J h0.next 6 u (O.flatMap Ent.cells))(hO:O.length<=4096)(on:az e.cells=true)
 (k:∀u' h6,Fr [] h0 h6->Gs h6 h0.next 6 u' ((O++[e]).flatMap Ent.cells)->K u' h6):OQ (dK (halloc J e.cells) 6 72 u (.slice J.next 0 1 1)) K:=by
 obtain⟨h5,U,Z,R⟩:=av F.wf e.cells;have n5:=hnx U
 have nn:=F.next;rw[<-U];refine RB (bytes:=72) Z.wf (g.fr Z) (RM R rfl) oM oM on oM (by rw[au aJ];omega) ?_;intro u' h6 D e6 I;exact k u' h6 (Ru w (F.then Z) I g.vb) (eV D)
theorem Gs.none6:Gs h B 6 .nils (([]:List Ent).flatMap Ent.cells):=.inl ⟨rfl,rfl⟩
def EV(N:Nat->Prop)(h0:Heap)(e:Ent):Prop:=IS N h0 e.x/\(1<=e.b/\e.b<=64)/\e.x.type<3
theorem xd(e:Ent):bF [ZX 0,ZY 0,.str [],.nils,ZZ 0,.bool false] 0 e.cells=some e.cells:=rfl
theorem pW{N:Nat→Prop}{h:Heap}{v:V}{E:List Ent}{a c:Int}(w:WF h)(hN:∀z,N z→z<h.next)(kl:KQ N h v E)(ev:∀e∈E,EV N h e)(hE:E.length≤1024)(ha:i64 a)(hc:i64 c):
 ay go 216 [v,.int .i64 a,.int .i64 c] h fun u h'=>Fr [] h h'∧∃u' t O,u=.tup [u',.int .i64 t]∧KQ N h' u' O∧(∀e∈O,EV N h e)∧O.length≤E.length∧(0≤a∧a≤E.length∧0≤c∧c≤E.length-a→O.length+c=E.length):=by
 have re:=kl.rs w;refine aa ?_;simp only[evs,seval,re.len];refine ae (kP oM ha hc) ?_;rintro _ _ ⟨rfl,rfl⟩;by_cases c1:0≤a∧a≤E.length∧0≤c∧c≤E.length-a
 ·rw[if_pos c1];obtain⟨a0,a1,c0,c2⟩:=c1;obtain⟨p,rfl⟩:∃p:Nat,a=p:=⟨a.toNat,oM⟩;obtain⟨q,rfl⟩:∃q:Nat,c=q:=⟨c.toNat,oM⟩;simp only[evs,seval,eq_false (dI:¬(1:Int)=0)];refine aw (fun n env hh=>Fr [] h hh∧∃(i:Nat)(u:V)(O:List Ent),env.get 9=some (.int .i64 i)∧env.get 8=some u∧env.get 0=some v∧env.get 1=some (.int .i64 p)∧env.get 2=some (.int .i64 q)∧i≤E.length∧
   Gs hh h.next 6 u (O.flatMap Ent.cells)∧(∀e∈O,EV N h e)∧O.length=min i p+(i-(p+q))∧n=E.length-i) E.length oM ?_ ?_
  ·exact⟨Fr.refl w,0,.nils,[],iS,iS,iS,iS,iS,oM,Gs.none6,iS,iS,rfl⟩
  ·rintro n env hh ⟨F,i,u,O,g9,g8,g0,g1,g2,hi,G,oe,ol,rfl⟩;have re':=Recs.fr re F;by_cases c:i<E.length
   ·obtain⟨b,o,e,p1,p2,p3,p4⟩:=re'.ix aJ .i64 (i:Int) oM oM;rw[Int.toNat_natCast]at p4;have em:=List.mem_of_getElem? p4;have on:=fy ((kl.itm w e em).fr F);by_cases c3:i<p
    ·simp only[evs,seval,g9,g8,g0,g1,re'.len,(oM:(i:Int)<E.length),p1,p3,xd,(iR:e.cells.length=6),eq_true (oM:(i:Int)<p)];refine eP w F G oM on ?_;rintro u' h6 F6 G6;simp(disch:=omega) only[evs,seval,fwrap_i64,g9];refine rqn ⟨E.length-(i+1),oM,F6,i+1,u',O++[e],iS,iS,iX,iX,iX,oM,G6,?_,by simp;omega,rfl⟩;intro z m;rcases List.mem_append.1 m with m|m
     ·exact oe z m
     ·grind
    by_cases c4:p+q≤i
    ·simp(disch:=omega) only[evs,seval,fwrap_i64,g9,g8,g0,g1,g2,re'.len,(oM:(i:Int)<E.length),p1,p3,xd,(iR:e.cells.length=6),eq_false (oM:¬(i:Int)<p),eq_true (oM:(p:Int)+q≤i)];refine eP w F G oM on ?_;rintro u' h6 F6 G6;simp(disch:=omega) only[evs,seval,fwrap_i64,g9];refine rqn ⟨E.length-(i+1),oM,F6,i+1,u',O++[e],iS,iS,iX,iX,iX,oM,G6,?_,by simp;omega,rfl⟩;intro z m;rcases List.mem_append.1 m with m|m
     ·exact oe z m
     ·grind
    ·simp(disch:=omega) only[evs,seval,fwrap_i64,g9,g0,g1,g2,re'.len,(oM:(i:Int)<E.length),eq_false (oM:¬(i:Int)<p),eq_false (oM:¬(p:Int)+q≤i)];refine rqn ⟨E.length-(i+1),oM,F,i+1,u,O,iS,iX,iX,iX,iX,oM,G,oe,oM,rfl⟩
   ·simp only[evs,seval,g9,g8,g0,re'.len,(oM:¬(i:Int)<E.length)];exact⟨F,u,0,O,rfl,KQ.fin w hN F G fun e m=>(oe e m).1,oe,oM,fun _=>by omega⟩
 ·rw[if_neg c1];simp only[evs,seval];exact⟨Fr.refl w,.nils,4,[],rfl,KQ.nil,iS,iS,fun z=>absurd z c1⟩
theorem EV.up{e:Ent}(a:EV N h e)(w:WF h)(f:Fr [] h h1):EV N h1 e:=⟨a.1.up w f iS,a.2⟩
theorem IS.H(a:IS N h x)(w:WF h):ItmH h x:=a [] h iS (Qw w)
theorem O8(a:∀e∈O,EV N h e):In64 (O.map Ent.b):=by
 intro x m;obtain⟨e,Z,rfl⟩:=Tn.1 m;exact(a e Z).2.1
theorem qd{a:Int}(w:WF h)(hN:∀z,N z->z<h.next)(rk:Recs Knd.cells 9 h vK Ks)(kh:∀q∈Ks,KndH h q)(r:RK Ks)
 (kl:KQ N h v E) (ev:∀e∈E,EV N h e) (hE:E.length<=1024) (ha:i64 a) (ry:Recs Itm.cells 4 h vY Y) (iy:∀y∈Y,IS N h y) (hY:Y.length<=2048) (nv:vY≠.sliceE):
 ay go 215 [.agg [vK,ZZ 12],v,ZZ a,vY] h fun u h'=>Fr [] h h'/\∃u' t O,u=.tup [u',ZZ t]/\KQ N h' u' O/\(∀e∈O,EV N h' e)/\O.length<=E.length+Y.length/\O.length<=1024:=by
 have v1:=RI rk;obtain⟨h1,R,F_h1,ah⟩:=av w [vK,ZZ 12];have n1:=hnx R
 have re:=kl.rs w;have lK{h'}(f:Fr [] h1 h'):=(f.get ah).la 2
 have iH:=fun y m=>(iy y m).H w;have bad:∀{h' u t},Fr [] h h'->u=V.tup [.nils,ZZ t]->Fr [] h h'/\∃u' t O,u=V.tup [u',ZZ t]/\KQ N h' u' O/\(∀e∈O,EV N h' e)/\O.length<=E.length+Y.length/\O.length<=1024:=fun f e=>⟨f,_,_,[],e,KQ.nil,iS,iS,iS⟩;obtain⟨ax,aA⟩:=ha;by_cases c1:a<0
 ·refine aa ?_;simp only[evs,seval,<-R,eq_true c1];exact bad F_h1 rfl
 by_cases c2:(E.length:Int)<a
 ·refine aa ?_;simp only[evs,seval,<-R,eq_false c1,re.len,eq_true c2];exact bad F_h1 rfl
 by_cases c3:(1024:Int)<(E.length:Nat)+(Y.length:Nat)
 ·refine aa ?_;simp(disch:=omega) only[evs,seval,fwrap_i64,<-R,eq_false c1,re.len,eq_false c2,ry.len,eq_true c3];exact bad F_h1 rfl
 refine aa ?_;simp(disch:=omega) only[evs,seval,fwrap_i64,<-R,eq_false c1,re.len,eq_false c2,ry.len,eq_false c3,lK (Qw F_h1.wf)];refine ae (lU F_h1.wf (QI rk F_h1) (fun q m=>(kh q m).fr F_h1) r (QI re F_h1) oM (QI ry F_h1) (fun y m=>(iH y m).fr F_h1) oM nv) ?_;rintro _ h2 ⟨F2,t,rfl,t0,ht⟩;have D:=F_h1.then F2;by_cases c4:0<t
 ·simp only[evs,seval,eq_true c4,lK F2];refine ae (lU F2.wf (QI rk D) (fun q m=>(kh q m).fr D) r (QI re D) oM (QI ry D) (fun y m=>(iH y m).fr D) oM nv) ?_;rintro _ h3 ⟨F3,t',rfl,ak,_⟩;simp only[evs,seval];exact bad (D.then F3) rfl
 have ok:=ht oM;obtain⟨p,rfl⟩:∃p:Nat,a=p:=⟨a.toNat,oM⟩;simp only[evs,seval,eq_false c4];refine aw (fun n env hh=>Fr [] h1 hh/\∃(i:Nat)(u:V)(O:List Ent),env.get 11=some (ZZ i)/\env.get 10=some u/\env.get 1=some v/\env.get 2=some (ZZ p)/\env.get 3=some vY/\env.get 4=some (.ptr h.next 0)/\i<=E.length+1/\
  Gs hh h1.next 6 u (O.flatMap Ent.cells)/\(∀e∈O,EV N h1 e)/\O.length=min i E.length+(if p<i then Y.length else 0)/\n=E.length+1-i) (E.length+1) oM ?_ ?_
 ·exact⟨F2,0,.nils,[],iS,iS,iS,iS,iS,iS,oM,Gs.none6,iS,iS,rfl⟩
 rintro n env hh ⟨F,i,u,O,Z,J,g1,g2,g3,g4,hi,G,oe,ol,rfl⟩;have U:=QI re (F_h1.then F);have I:=QI ry (F_h1.then F);by_cases c:i<E.length+1
 ·by_cases cp:i=p
  ·rw[if_neg oM]at ol;simp only[evs,seval,Z,g1,g2,U.len,(oM:(i:Int)<=E.length),eq_true (oM:(i:Int)=p)];refine aw (fun n env hh=>Fr [] h1 hh/\∃(k:Nat)(u:V)(O:List Ent),env.get 12=some (ZZ k)/\env.get 11=some (ZZ i)/\env.get 10=some u/\env.get 1=some v/\env.get 2=some (ZZ p)/\env.get 3=some vY/\env.get 4=some (.ptr h.next 0)/\k<=Y.length/\
    Gs hh h1.next 6 u (O.flatMap Ent.cells)/\(∀e∈O,EV N h1 e)/\O.length=i+k/\n=Y.length-k) Y.length oM ?_ ?_
   ·exact⟨F,0,u,O,iS,iX,iX,iX,iX,iX,iX,oM,G,oe,oM,rfl⟩
   clear Z J g1 g2 g3 g4 G oe ol F U I;rintro n env hh ⟨F,k,u,O,ab,Z,J,g1,g2,g3,g4,hk,G,oe,ol,rfl⟩;have U:=QI re (F_h1.then F);have I:=QI ry (F_h1.then F);by_cases ck:k<Y.length
   ·obtain⟨b,o,y,p1,p2,p3,p4⟩:=I.ix b8 .i64 (k:Int) oM oM;rw[so]at p4;have ym:=Of p4;have ad:=ok y ym;have ty:y.type<3:=by simp only[okI,be,decide_eq_true_eq]at ad;exact ad.2.1
    simp only[evs,seval,eff,ab,J,g3,g4,I.len,(oM:(k:Int)<Y.length),p1,p3,lK F];refine ae (wa F.wf (QI rk (F_h1.then F)) ((iH y ym).fr (F_h1.then F)) (by rw[r.2.1];exact ty)) ?_;rintro _ h5 ⟨rfl,F5⟩;have aj:=F.then F5;have on:az (Ent.cells ⟨y,di Ks y,false⟩)=true:=fy ((iH y ym).fr (F_h1.then F));have ao:az (y.ent (di Ks y) false)=true:=on;have u1:bF [ZX 0,ZY 0,.str [],.nils,ZZ 0,.bool false] 0 (y.ent (di Ks y) false)=some (y.ent (di Ks y) false):=rfl;have ld{h'}(f:Fr [] h1 h'):aH h' b o 4=some y.cells:=by
     obtain⟨b',o',y',q1,q2,q3,q4⟩:=(QI ry (F_h1.then f)).ix b8 .i64 (k:Int) oM oM;rw[so,p4]at q4;cases q4;rw[p1]at q1;cases q1;exact q3
    simp only[evs,seval,eff,u1,(iR:(y.ent (di Ks y) false).length=6)];refine eP F_h1.wf aj (G.fr F5) oM on ?_;rintro u' h6 F6 G6;simp(disch:=omega) only[evs,seval,DF,eff,fwrap_i64,ab,g4,lK F,ld F];refine rqn ⟨Y.length-(k+1),oM,F6,k+1,u',O++[⟨y,di Ks y,false⟩],iS,iX,iS,iX,iX,iX,iX,oM,G6,?_,by simp;omega,rfl⟩;intro z m;rcases Qp.1 m with m|m
    ·exact oe z m
    ·simp at m;subst m;exact⟨(iy y ym).up w F_h1 iS,I6 r ad⟩
   ·by_cases ce:i<E.length
    ·obtain⟨b,o,e,p1,p2,p3,p4⟩:=U.ix aJ .i64 (i:Int) oM oM;rw[so]at p4;have em:=Of p4;have on:=fy ((kl.itm w e em).fr (F_h1.then F));simp only[evs,seval,ab,Z,J,g1,g3,I.len,(oM:¬(k:Int)<Y.length),U.len,(oM:(i:Int)<E.length),p1,p3,xd,(iR:e.cells.length=6)];refine eP F_h1.wf F G oM on ?_;rintro u' h6 F6 G6;simp(disch:=omega) only[evs,seval,fwrap_i64,Z];refine rqn ⟨E.length+1-(i+1),oM,F6,i+1,u',O++[e],iS,iS,iX,iX,iX,iX,oM,G6,?_,by rw[if_pos oM];simp;omega,rfl⟩;exact yM
    ·simp(disch:=omega) only[evs,seval,fwrap_i64,ab,Z,g1,g3,I.len,(oM:¬(k:Int)<Y.length),U.len,(oM:¬(i:Int)<E.length)];refine rqn ⟨E.length+1-(i+1),oM,F,i+1,u,O,iS,iX,iX,iX,iX,iX,oM,G,oe,by rw[if_pos oM];omega,rfl⟩
  ·have o4:O.length<=4096:=by split at ol<;>omega
   by_cases ce:i<E.length
   ·obtain⟨b,o,e,p1,p2,p3,p4⟩:=U.ix aJ .i64 (i:Int) oM oM;rw[so]at p4;have em:=Of p4;have on:=fy ((kl.itm w e em).fr (F_h1.then F));simp only[evs,seval,Z,J,g1,g2,(oM:(i:Int)<=E.length),eq_false (oM:¬(i:Int)=p),U.len,(oM:(i:Int)<E.length),p1,p3,xd,(iR:e.cells.length=6)];refine eP F_h1.wf F G o4 on ?_;rintro u' h6 F6 G6;simp(disch:=omega) only[evs,seval,fwrap_i64,Z];refine rqn ⟨E.length+1-(i+1),oM,F6,i+1,u',O++[e],iS,iS,iX,iX,iX,iX,oM,G6,?_,by by_cases z:p<i;rw[if_pos z]at ol;rw[if_pos oM];simp;omega;rw[if_neg z]at ol;rw[if_neg oM];simp;omega,rfl⟩;exact yM
   ·simp(disch:=omega) only[evs,seval,fwrap_i64,Z,g1,g2,(oM:(i:Int)<=E.length),eq_false (oM:¬(i:Int)=p),U.len,(oM:¬(i:Int)<E.length)];refine rqn ⟨E.length+1-(i+1),oM,F,i+1,u,O,iS,iX,iX,iX,iX,iX,oM,G,oe,by by_cases z:p<i;rw[if_pos z]at ol;rw[if_pos oM];omega;omega,rfl⟩
 ·have ob:=O8 oe;rw[if_pos oM]at ol;simp only[evs,seval,Z,J,g1,U.len,(oM:¬(i:Int)<=E.length)];refine ae (Ad (SM G (au aJ _) oM) oM ob.okZ) ?_;rintro _ _ ⟨rfl,rfl⟩;have ub:=ob.ub O.length;rw[Sr]at ub;rw[if_neg oM];simp only[evs,seval,J];exact⟨F_h1.then F,u,0,O,rfl,KQ.fin F_h1.wf (nUp hN F_h1) F G fun e m=>(oe e m).1,fun e m=>(oe e m).up F_h1.wf F,oM,oM⟩
theorem AW(w:WF h)(hN:∀z,N z->z<h.next)(rk:Recs Knd.cells 9 h vK Ks)(kh:∀q∈Ks,KndH h q)(r:RK Ks)
 (ry:Recs Itm.cells 4 h vY Y) (D:∀y∈Y,IS N h y) (hY:Y.length<=2048) (nv:vY≠.sliceE):
 ay go 219 [.agg [vK,ZZ 12],vY] h fun u h'=>Fr [] h h'/\∃u' t O,u=.tup [u',ZZ t]/\KQ N h' u' O/\(∀e∈O,EV N h' e)/\O.length<=Y.length/\O.length<=1024:=by
 have v1:=RI rk;obtain⟨h1,U,Z,R⟩:=av w [vK,ZZ 12];have n1:=hnx U
 have lK:=R.la 2
 refine aa ?_;simp only[evs,seval,<-U,lK];refine ae (qd (E:=[]) Z.wf (nUp hN Z) (QI rk Z) (fun q m=>(kh q m).fr Z) r KQ.nil iS iS ⟨dI,dI⟩ (QI ry Z) (fun y m=>(D y m).up w Z iS) hY nv) ?_;rintro _ h2 ⟨J,u',t,O,rfl,I,o2,l2,l3⟩;simp only[evs,seval];exact⟨Z.then J,u',t,O,rfl,I,o2,by simpa using l2,l3⟩
theorem EE{a c t:Int}(w:WF h)(hN:∀z,N z->z<h.next)(kl:KQ N h v E)(ev:∀e∈E,EV N h e)(hE:E.length<=1024)(ha:i64 a)(hc:i64 c)(ht:i64 t):
 ay go 217 [v,ZZ a,ZZ c,ZZ t] h fun u h'=>Fr [] h h'/\∃u' t' O,u=.tup [u',ZZ t']/\KQ N h' u' O/\(∀e∈O,EV N h' e)/\O.length<=E.length:=by
 have re:=kl.rs w;have bad:∀{h' u t},Fr [] h h'->u=V.tup [.nils,ZZ t]->Fr [] h h'/\∃u' t O,u=V.tup [u',ZZ t]/\KQ N h' u' O/\(∀e∈O,EV N h' e)/\O.length<=E.length:=fun f e=>⟨f,_,_,[],e,KQ.nil,iS,iS⟩;refine aa ?_;simp only[evs,seval,re.len];refine ae (kP oM ha hc) ?_;rintro _ _ ⟨rfl,rfl⟩;by_cases c1:0<=a/\a<=E.length/\0<=c/\c<=E.length-a
 ·rw[if_pos c1];obtain⟨a0,a1,c0,c2⟩:=c1;obtain⟨p,rfl⟩:∃p:Nat,a=p:=⟨a.toNat,oM⟩;obtain⟨q,rfl⟩:∃q:Nat,c=q:=⟨c.toNat,oM⟩;have sub:(E.length:Int)-q=((E.length-q:Nat):Int):=oM
  simp(disch:=omega) only[evs,seval,fwrap_i64,eq_false (dI:¬(1:Int)=0),re.len,sub];refine ae (kP oM ht ⟨dI,dI⟩) ?_;rintro _ _ ⟨rfl,rfl⟩;by_cases c3:0<=t/\t<=(E.length-q:Nat)/\(0:Int)<=0/\0<=((E.length-q:Nat):Int)-t
  ·rw[if_pos c3];obtain⟨t0,t1,_⟩:=c3;obtain⟨d,rfl⟩:∃d:Nat,t=d:=⟨t.toNat,oM⟩;simp only[evs,seval,eq_false (dI:¬(1:Int)=0)];refine ae (pW w hN kl ev hE ha hc) ?_;rintro _ h2 ⟨R,vr,e2,M,rfl,kr,er,lr,zr⟩;simp only[evs];have zr:=zr ⟨a0,a1,c0,c2⟩;have rm:=kr.rs R.wf;have ad:=fun e m=>(ev e m).up w R;have ah:=fun e m=>(er e m).up w R;have ao:=R.next;refine aw (fun n env hh=>Fr [] h2 hh/\∃(i:Nat)(u:V)(O:List Ent),env.get 13=some (ZZ i)/\env.get 12=some u/\env.get 0=some v/\env.get 1=some (ZZ p)/\env.get 2=some (ZZ q)/\env.get 3=some (ZZ d)/\env.get 10=some vr/\i<=M.length+1/\
    Gs hh h2.next 6 u (O.flatMap Ent.cells)/\(∀e∈O,EV N h2 e)/\O.length=min i M.length+(if d<i then q else 0)/\n=M.length+1-i) (M.length+1) oM ?_ ?_
   ·exact⟨Qw R.wf,0,.nils,[],iS,iS,iS,iS,iS,iS,iS,oM,Gs.none6,iS,iS,rfl⟩
   rintro n env hh ⟨F,i,u,O,Z,I,g0,g1,g2,g3,J,hi,G,D,ol,rfl⟩;have U:=QI rm F;by_cases c:i<M.length+1
   ·simp only[evs,seval,Z,J,U.len,(oM:(i:Int)<=M.length)];refine aw (fun n env hh=>Fr [] h2 hh/\∃(k:Nat)(u:V)(O:List Ent),env.get 14=some (ZZ k)/\env.get 13=some (ZZ i)/\env.get 12=some u/\env.get 0=some v/\env.get 1=some (ZZ p)/\env.get 2=some (ZZ q)/\env.get 3=some (ZZ d)/\env.get 10=some vr/\k<=q/\(i≠d->k=0)/\
     Gs hh h2.next 6 u (O.flatMap Ent.cells)/\(∀e∈O,EV N h2 e)/\O.length=min i M.length+(if d<i then q else 0)+k/\n=q-k) q oM ?_ ?_
    ·exact⟨F,0,u,O,iS,iX,iX,iX,iX,iX,iX,iX,oM,fun _=>rfl,G,D,oM,rfl⟩
    clear Z I g0 g1 g2 g3 J G D ol F U;rintro n env hh ⟨F,k,u,O,ab,Z,I,g0,g1,g2,g3,J,hk,k0,G,D,ol,rfl⟩;have aj:=QI re (R.then F);have U:=QI rm F;have o4:O.length<=4096:=by split at ol<;>omega
    by_cases cd:i=d/\k<q
    ·obtain⟨rfl,ck⟩:=cd;rw[if_neg oM]at ol;obtain⟨b,o,e,p1,p2,p3,p4⟩:=aj.ix aJ .i64 ((p+k:Nat):Int) oM oM;rw[so]at p4;have em:=Of p4;have on:=fy ((kl.itm w e em).fr (R.then F));have pk:((p+k:Nat):Int)=(p:Int)+k:=oM
     rw[pk]at p1;simp(disch:=omega) only[evs,seval,fwrap_i64,ab,Z,I,g0,g1,g2,g3,eq_true (oM:(k:Int)<q),p1,p3,xd,(iR:e.cells.length=6)];refine eP R.wf F G o4 on ?_;rintro u' h6 F6 G6;simp(disch:=omega) only[evs,seval,fwrap_i64,ab];refine rqn ⟨q-(k+1),oM,F6,k+1,u',O++[e],iS,iX,iS,iX,iX,iX,iX,iX,oM,fun z=>absurd rfl z,G6,?_,by simp;omega,rfl⟩;intro z m;rcases Qp.1 m with m|m
     ·exact D z m
     ·simp at m;subst m;exact ad z em
    ·have ak:O.length=min i M.length+(if d<i+1 then q else 0):=by
      by_cases ci:i=d
      ·rw[if_neg oM]at ol;rw[if_pos oM];omega
      ·have:=k0 ci;by_cases z:d<i
       ·rw[if_pos z]at ol;rw[if_pos oM];omega
       ·rw[if_neg z]at ol;rw[if_neg oM];omega
     by_cases ci:i=d
     case' pos=>
      simp(disch:=omega) only[evs,seval,fwrap_i64,ab,Z,I,g2,g3,J,eq_true (oM:(i:Int)=d),eq_false (oM:¬(k:Int)<q),U.len]
     case' neg=>
      simp(disch:=omega) only[evs,seval,fwrap_i64,Z,I,g3,J,eq_false (oM:¬(i:Int)=d),U.len]
     all_goals
      by_cases ce:i<M.length
      ·obtain⟨b,o,e,p1,p2,p3,p4⟩:=U.ix aJ .i64 (i:Int) oM oM;rw[so]at p4;have em:=Of p4;have on:=fy ((kr.itm R.wf e em).fr F);simp only[evs,seval,eq_true (oM:(i:Int)<M.length),p1,p3,xd,(iR:e.cells.length=6)];refine eP R.wf F G o4 on ?_;rintro u' h6 F6 G6;simp(disch:=omega) only[evs,seval,fwrap_i64,Z];refine rqn ⟨M.length+1-(i+1),oM,F6,i+1,u',O++[e],iS,iS,iX,iX,iX,iX,iX,oM,G6,?_,by simp;omega,rfl⟩;intro z m;rcases Qp.1 m with m|m
       ·exact D z m
       ·simp at m;subst m;exact ah z em
      ·simp only[evs,seval,eq_false (oM:¬(i:Int)<M.length)];refine rqn ⟨M.length+1-(i+1),oM,F,i+1,u,O,iS,iX,iX,iX,iX,iX,iX,oM,G,D,oM,rfl⟩
   ·have:O.length<=E.length:=by split at ol<;>omega
    simp only[evs,seval,Z,I,J,U.len,(oM:¬(i:Int)<=M.length)];exact⟨R.then F,u,0,O,rfl,KQ.fin R.wf (nUp hN R) F G fun e m=>(D e m).1,fun e m=>(D e m).up R.wf F,this⟩
  ·rw[if_neg c3];simp only[evs,seval];exact bad (Qw w) rfl
 ·rw[if_neg c1];simp only[evs,seval];exact bad (Qw w) rfl
theorem Aq{a:Int}(w:WF h)(hN:∀z,N z->z<h.next)(rk:Recs Knd.cells 9 h vK Ks)(kh:∀q∈Ks,KndH h q)(r:RK Ks)
 (kl:KQ N h v E) (ev:∀e∈E,EV N h e) (hE:E.length<=1024) (ha:i64 a) (ry:Recs Itm.cells 4 h vY Y) (iy:∀y∈Y,IS N h y) (hY:Y.length<=2048):
 ay go 218 [.agg [vK,ZZ 12],v,ZZ a,vY] h fun u h'=>Fr [] h h'/\∃u' t O,u=.tup [u',ZZ t]/\KQ N h' u' O/\(∀e∈O,EV N h' e)/\O.length<=E.length:=by
 have v1:=RI rk;obtain⟨h1,ab,F_h1,ak⟩:=av w [vK,ZZ 12];have n1:=hnx ab
 have re:=kl.rs w;have lK{h'}(f:Fr [] h1 h'):=(f.get ak).la 2
 have iH:=fun y m=>(iy y m).H w;have bad:∀{h' u t},Fr [] h h'->u=V.tup [.nils,ZZ t]->Fr [] h h'/\∃u' t O,u=V.tup [u',ZZ t]/\KQ N h' u' O/\(∀e∈O,EV N h' e)/\O.length<=E.length:=fun f e=>⟨f,_,_,[],e,KQ.nil,iS,iS⟩;refine aa ?_;simp only[evs,seval,<-ab,re.len,ry.len];refine ae (kP (c:=(Y.length:Nat)) oM ha ⟨oM,oM⟩) ?_;rintro _ _ ⟨rfl,rfl⟩;by_cases c1:0<=a/\a<=E.length/\(0:Int)<=(Y.length:Nat)/\(Y.length:Int)<=E.length-a
 ·rw[if_pos c1];obtain⟨a0,a1,_,c2⟩:=c1;obtain⟨p,rfl⟩:∃p:Nat,a=p:=⟨a.toNat,oM⟩;simp only[evs,seval,eq_false (dI:¬(1:Int)=0)];refine aw (fun n env hh=>Fr [] h1 hh/\∃(i:Nat)(u:V)(O:List Ent),env.get 11=some (ZZ i)/\env.get 10=some u/\env.get 1=some v/\env.get 2=some (ZZ p)/\env.get 3=some vY/\env.get 4=some (.ptr h.next 0)/\i<=E.length/\
   Gs hh h1.next 6 u (O.flatMap Ent.cells)/\(∀e∈O,EV N h1 e)/\O.length=i/\n=E.length-i) E.length oM ?_ ?_
  ·exact⟨Qw F_h1.wf,0,.nils,[],iS,iS,iS,iS,iS,iS,oM,Gs.none6,iS,iS,rfl⟩
  rintro n env hh ⟨F,i,u,O,I,J,g1,g2,g3,g4,hi,G,oe,ol,rfl⟩;have D:=QI re (F_h1.then F);by_cases c:i<E.length
  ·obtain⟨b,o,e,p1,p2,p3,p4⟩:=D.ix aJ .i64 (i:Int) oM oM;rw[so]at p4;have em:=Of p4;have on:=fy ((kl.itm w e em).fr (F_h1.then F));simp only[evs,seval,I,J,g1,D.len,(oM:(i:Int)<E.length),p1,p3,xd,(iR:e.cells.length=6)];refine eP F_h1.wf F G oM on ?_;rintro u' h6 F6 G6;simp(disch:=omega) only[evs,seval,fwrap_i64,I];refine rqn ⟨E.length-(i+1),oM,F6,i+1,u',O++[e],iS,iS,iX,iX,iX,iX,oM,G6,?_,by simp;omega,rfl⟩;exact yM
  obtain rfl:i=E.length:=oM
  simp only[evs,seval,I,g1,D.len,(oM:¬((E.length:Nat):Int)<E.length)];refine aw (fun n env hh=>Fr [] h1 hh/\∃(k:Nat)(O:List Ent),env.get 12=some (ZZ k)/\env.get 10=some u/\env.get 1=some v/\env.get 2=some (ZZ p)/\env.get 3=some vY/\env.get 4=some (.ptr h.next 0)/\k<=Y.length/\
   Gs hh h1.next 6 u (O.flatMap Ent.cells)/\(∀e∈O,EV N h1 e)/\O.length=E.length/\n=Y.length-k) Y.length oM ?_ ?_
  ·exact⟨F,0,O,iS,iX,iX,iX,iX,iX,oM,G,oe,oM,rfl⟩
  clear I J g1 g2 g3 g4 G oe ol F D;rintro n env hh ⟨F,k,O,U,J,g1,g2,g3,g4,hk,G,oe,ol,rfl⟩;have Fx:=F_h1.then F;have ah:=QI ry Fx;by_cases ck:k<Y.length
  ·obtain⟨b,o,y,p1,p2,p3,p4⟩:=ah.ix b8 .i64 (k:Int) oM oM;rw[so]at p4;have ym:=Of p4;have R{h'}(f:Fr [] h1 h'):aH h' b o 4=some y.cells/\ai h' b o=some (ZX (y.key:Int)):=by
    obtain⟨b',o',y',q1,q2,q3,q4⟩:=(QI ry (F_h1.then f)).ix b8 .i64 (k:Int) oM oM;rw[so,p4]at q4;cases q4;rw[p1]at q1;cases q1;exact⟨q3,q2 0 oM⟩
   simp only[evs,seval,eff,U,g3,g4,ah.len,(oM:(k:Int)<Y.length),p1,(R F).1,lK F];refine ae (mR F.wf (QI rk Fx) (fun q m=>(kh q m).fr Fx) r ((iH y ym).fr Fx) (.inl rfl)) ?_;rintro _ h3 ⟨F3,e,rfl,e0,he,_⟩;have Z:=F.then F3;simp(disch:=omega) only[evs,seval,DF,eff,fwrap_i64,U,g1,g2,g4,(R F).1,lK F];by_cases c6:e=6
   ·simp only[seval,eq_true c6];exact bad (F_h1.then Z) rfl
   obtain⟨bE,oE,x,z1,z2,z3,z4⟩:=(QI re (F_h1.then Z)).ix aJ .i64 ((p+k:Nat):Int) oM oM;have pk:((p+k:Nat):Int)=(p:Int)+k:=oM
   rw[pk]at z1;have zk:ai h3 bE oE=some (ZX (x.x.key:Int)):=z2 0 oM;by_cases aj:(x.x.key:Int)=y.key
   ·simp(disch:=omega) only[evs,seval,DF,eff,fwrap_i64,eq_false c6,U,J,g2,g3,g4,p1,z1,zk,(R Z).2,eq_true aj];by_cases cp:0<e
    ·simp only[seval,eq_true cp];exact bad (F_h1.then Z) rfl
    have ad:=(he oM).1;have ty:y.type<3:=by simp only[okI,be,decide_eq_true_eq]at ad;exact ad.2.1
    simp only[evs,seval,eff,eq_false cp,U,g3,p1,(R Z).1,lK Z];refine ae (wa F3.wf (QI rk (F_h1.then Z)) ((iH y ym).fr (F_h1.then Z)) (by rw[r.2.1];exact ty)) ?_;rintro _ h5 ⟨rfl,F5⟩;have ax:=Z.then F5;have on:az (Ent.cells ⟨y,di Ks y,false⟩)=true:=fy ((iH y ym).fr (F_h1.then F));have ao:az (y.ent (di Ks y) false)=true:=on;have G5:=(G.fr F3).fr F5;have xO:O[p+k]? =some (O[p+k]' oM):=Qq _;generalize O[p+k]' oM=eo at xO;rcases G5 with⟨_,z⟩|⟨bo,no,rfl,e1,e2,e3,oo⟩
    ·have:=congrArg List.length z;rw[au aJ]at this;simp at this;omega
    have nO:no=O.length:=by rw[au aJ]at e1;omega
    have xa:=uv 6 bo 0 no 6 .i64 ((p:Int)+k) oM oM;have tn:((p:Int)+k).toNat=p+k:=oM
    rw[tn,Rc]at xa;have up:=aS aJ (y:=(⟨y,di Ks y,false⟩:Ent)) (o:=0) (vs:=Ent.cells ⟨y,di Ks y,false⟩) O (p+k) eo xO rfl;simp only[evs,eff,xa];refine ac F5.wf oo rfl ao up ?_;rintro h6 o6 F6 n6;have aA:=Ru F_h1.wf ax F6 oO;simp(disch:=omega) only[evs,seval,DF,fwrap_i64,U,g4,(R Z).1,lK Z];refine rqn ⟨Y.length-(k+1),oM,aA,k+1,O.set (p+k) ⟨y,di Ks y,false⟩,iS,iX,iX,iX,iX,iX,oM,.inr ⟨bo,no,rfl,?_,e2,e3,o6⟩,?_,by simp;omega,rfl⟩
    ·rw[au aJ,Rd,nO]
    ·intro z m;rcases Ra m with m|rfl
     ·exact oe z m
     ·exact⟨(iy y ym).up w F_h1 iS,I6 r ad⟩
   ·simp only[evs,seval,DF,eff,eq_false c6,U,g3,p1,z1,zk,(R Z).2,eq_false aj];exact bad (F_h1.then Z) rfl
  ·have ob:=O8 oe;simp only[evs,seval,U,J,g3,ah.len,(oM:¬(k:Int)<Y.length)];refine ae (Ad (SM G (au aJ _) oM) oM ob.okZ) ?_;rintro _ _ ⟨rfl,rfl⟩;have ub:=ob.ub O.length;rw[Sr]at ub;rw[if_neg oM];simp only[evs,seval,J];exact⟨F_h1.then F,u,0,O,rfl,KQ.fin F_h1.wf (nUp hN F_h1) F G fun e m=>(oe e m).1,fun e m=>(oe e m).up F_h1.wf F,oM⟩
 ·rw[if_neg c1];simp only[evs,seval];exact bad F_h1 rfl
theorem B9{x:Nt}(w:WF h)(hN:∀z,N z->z<h.next)(rk:Recs Knd.cells 9 h vK Ks)(kh:∀q∈Ks,KndH h q)(r:RK Ks)
 (kl:KQ N h v E) (ev:∀e∈E,EV N h e) (hE:E.length<=1024) (ry:Recs Itm.cells 4 h x.v x.n.Y) (iy:∀y∈x.n.Y,IS N h y) (hY:x.n.Y.length<=2048) (nv:x.v≠.sliceE)
 (hk:x.n.k<256) (ha:i64 x.n.a) (hc:i64 x.n.c) (ht:i64 x.n.t):
 ay go 154 [.agg [vK,ZZ 12],v,.agg x.cells] h fun u h'=>Fr [] h h'/\∃u' t O,u=.tup [u',ZZ t]/\KQ N h' u' O/\(∀e∈O,EV N h' e)/\O.length<=1024/\(O.length<=x.n.Y.length\/(x.n.k≠5/\O.length<=E.length+x.n.Y.length)):=by
 have v1:=RI rk;have y1:=RI ry;have x1:az x.cells=true:=by show az [_,_,_,_,x.v]=true;simp only[af,ag,y1];rfl
 obtain⟨h1,ab,ah,ao⟩:=av w [vK,ZZ 12];obtain⟨I,ad,aj,U⟩:=av ah.wf x.cells;have n1:=hnx ab
 have n2:=hnx ad
 have R:=ah.then aj;have lK{h'}(f:Fr [] I h'):=((aj.then f).get ao).la 2
 have lx{h'}(f:Fr [] I h'):=(f.get U).la 5
 have l0{h'}(f:Fr [] I h'):=(f.get U).l1 0;have l1{h'}(f:Fr [] I h'):=(f.get U).l1 1;have l2{h'}(f:Fr [] I h'):=(f.get U).l1 2;have l3{h'}(f:Fr [] I h'):=(f.get U).l1 3;have l4{h'}(f:Fr [] I h'):=(f.get U).l1 4;have r0:Fr [] I I:=Qw R.wf;refine aa ?_;simp only[evs,seval,<-ab,<-ad,lx r0];refine ae (wv R.wf (QI ry R) hk) ?_;rintro _ h3 ⟨Z,t,rfl,t0⟩;by_cases ct:0<t
 ·simp only[evs,seval,eq_true ct,lx Z];refine ae (wv Z.wf (QI ry (R.then Z)) hk) ?_;rintro _ h4 ⟨F4,t',rfl,ax⟩;simp only[evs,seval];exact⟨(R.then Z).then F4,_,_,[],rfl,KQ.nil,iS,iS,iS⟩
 have F03:=R.then Z;have D:=kl.up w F03;have J:=fun e m=>(ev e m).up w F03;have ak:=fun y m=>(iy y m).up w F03 iS;have hn:=F03.next;by_cases k1:x.n.k=1
 ·simp only[evs,seval,eq_false ct,l0 Z,eq_true (oM:(x.n.k:Int)=1),lK Z,l1 Z,l4 Z];refine ae (qd Z.wf (nUp hN F03) (QI rk F03) (fun q m=>(kh q m).fr F03) r D J hE ha (QI ry F03) ak hY nv) ?_;rintro _ h4 ⟨F4,u',t',O,rfl,a1,a2,a3,a4⟩;simp only[evs,seval];exact⟨F03.then F4,_,_,O,rfl,a1,a2,a4,.inr ⟨oM,a3⟩⟩
 by_cases k2:x.n.k=2
 ·simp only[evs,seval,eq_false ct,l0 Z,eq_false (oM:¬(x.n.k:Int)=1),eq_true (oM:(x.n.k:Int)=2),l1 Z,l2 Z];refine ae (pW Z.wf (nUp hN F03) D J hE ha hc) ?_;rintro _ h4 ⟨F4,u',t',O,rfl,a1,a2,a3,_⟩;simp only[evs,seval];exact⟨F03.then F4,_,_,O,rfl,a1,fun e m=>(a2 e m).up Z.wf F4,oM,.inr ⟨oM,oM⟩⟩
 by_cases k3:x.n.k=3
 ·simp only[evs,seval,eq_false ct,l0 Z,eq_false (oM:¬(x.n.k:Int)=1),eq_false (oM:¬(x.n.k:Int)=2),eq_true (oM:(x.n.k:Int)=3),l1 Z,l2 Z,l3 Z];refine ae (EE Z.wf (nUp hN F03) D J hE ha hc ht) ?_;exact yaa
 by_cases k4:x.n.k=4
 ·simp only[evs,seval,eq_false ct,l0 Z,eq_false (oM:¬(x.n.k:Int)=1),eq_false (oM:¬(x.n.k:Int)=2),eq_false (oM:¬(x.n.k:Int)=3),eq_true (oM:(x.n.k:Int)=4),lK Z,l1 Z,l4 Z];refine ae (Aq Z.wf (nUp hN F03) (QI rk F03) (fun q m=>(kh q m).fr F03) r D J hE ha (QI ry F03) ak hY) ?_;exact yaa
 simp only[evs,seval,eq_false ct,l0 Z,eq_false (oM:¬(x.n.k:Int)=1),eq_false (oM:¬(x.n.k:Int)=2),eq_false (oM:¬(x.n.k:Int)=3),eq_false (oM:¬(x.n.k:Int)=4),lK Z,l4 Z];refine ae (AW Z.wf (nUp hN F03) (QI rk F03) (fun q m=>(kh q m).fr F03) r (QI ry F03) ak hY nv) ?_;rintro _ h4 ⟨F4,u',t',O,rfl,a1,a2,a3,a4⟩;simp only[evs,seval];exact⟨F03.then F4,_,_,O,rfl,a1,a2,a4,.inl a3⟩
open Go.Ev.St
section
variable {h : Heap} {v : V} {E : List Ent}
abbrev vA(k:Nat)(d:Int):V:=.agg [ZX (k:Int),ZZ d]
section
variable {n0 : NL} {h : Heap} {b bg B bm S bl : Nat} {Ks : List Knd} {cap : Int} {X : List Itm} {kn st : List Bool} {vK : V} {pm : Option Nat} {mc : pQ} {E : List Ent}
end
end
/-- paternoster/paternosterref25.Apply -/
theorem g84x : F.get 153 = some fn84x := rfl
open Go.Ev.St
def Stb(Q:Nat->Prop)(h:Heap)(T:Heap->Prop):Prop:=∀S h',(∀z∈S,Q z\/h.next<=z)->Fr S h h'->T h'
theorem Stb.step{Q':Nat->Prop}{T:Heap->Prop}(a:Stb Q h T)(w:WF h)(f:Fr S0 h h')(h0:∀z∈S0,Q z\/h.next<=z)(hq:∀z,Q' z->Q z\/h.next<=z):Stb Q' h' T:=fun S h2 hS f2=>
 a (S0++S) h2 (fun z m=>by
  have:=f.next;rcases Qp.1 m with m|m
  ·exact h0 z m
  ·rcases hS z m with q|q
   ·exact hq z q
   ·exact .inr oM) (Qx f f2 w (fun x m=>.inl (Qp.2 (.inl m))) (fun x m=>.inl (Qp.2 (.inr m))))
theorem IS.step{Q':Nat->Prop}(a:IS Q h x)(w:WF h)(f:Fr S0 h h')(h0:∀z∈S0,Q z\/h.next<=z)(hq:∀z,Q' z->Q z\/h.next<=z):IS Q' h' x:=Stb.step a w f h0 hq
theorem ItmG.is{N:Nat}(g:ItmG N h x)(w:WF h)(hQ:∀z,Q z->z<N):IS Q h x:=fun S h' hS f=>(g.keep f (fun z m c=>by
 have:=g.g.vb z c;have:=g.g.lt w z c;rcases hS z m with q|q
 ·grind
 ·omega)).H
def Pu(P:Nat->Prop)(u:V)(z:Nat):Prop:=P z\/z∈vb u
theorem iQ{P:Nat->Prop}{U:Heap}{O:List Itm}{y:Itm}(w:WF U)(hB:B<=U.next)(g:Gs U B 4 u (O.flatMap Itm.cells))(iO:∀y∈O,IS (Pu P u) U y)(iy:IS (Pu P u) U y)(hO:O.length<=4096)
 (k:∀u' h6,Gs h6 B 4 u' ((O++[y]).flatMap Itm.cells)->(∀z∈O++[y],IS (Pu P u') h6 z)->Fr (vb u) U h6->K u' h6):OQ (dK (halloc U y.cells) 4 56 u (.slice U.next 0 1 1)) K:=by
 have on:=(iy.H w).one;obtain⟨h5,R,Z,J⟩:=av w y.cells;have n5:=hnx R
 rw[<-R];refine RB (bytes:=56) Z.wf (g.fr Z) (RM J rfl) oM oM on oM (by rw[au b8];omega) ?_;intro u' h6 D e6 I;have n6:=I.next;refine k u' h6 (eV D) (fun z m=>?_) (Qx Z I w iS (fun x m=>.inl m));have iz:IS (Pu P u) U z:=by grind
 refine(iz.step (Q':=Pu P u) w Z iS (fun z m=>.inl m)).step Z.wf I (fun z m=>.inl (.inr m)) fun z m=>?_;rcases m with m|m
 ·exact .inl (.inl m)
 ·grind
abbrev Z5:List V:=[ZY 0,ZZ 0,ZZ 0,ZZ 0,.nils]
structure NtG(P:Nat->Prop)(B:Nat)(h:Heap)(x:Nt):Prop where
 k:x.n.k<256
 a:i64 x.n.a
 c:i64 x.n.c
 t:i64 x.n.t
 g:Gs h B 4 x.v (x.n.Y.flatMap Itm.cells)
 i:∀y∈x.n.Y,IS (Pu P x.v) h y
def P6(P:Nat->Prop)(p:Nat)(z:Nat):Prop:=P z\/z=p
theorem io{Z:Heap}{x:Nt}{P:Nat->Prop}(w:WF Z)(I:Own Z p Z5)(g:NtG (P6 P p) B Z x)(hB:p<B)
 (k:∀h',Own h' p x.cells->NtG P B h' x->Fr [p] Z h'->K (.tup []) h'):HQ (gm Z 5 (.ptr p 0) (.agg x.cells)) K:=by
 have R:=g.g.one;refine ac w I rfl (by show az [_,_,_,_,x.v]=true;simp only[af,ag,R];rfl) rfl ?_;rintro J D U n5;refine k J D ⟨g.k,g.a,g.c,g.t,g.g.keep U (eV hB),fun y m=>(g.i y m).step w U (fun z q=>?_) (fun z q=>?_)⟩ U
 ·exact .inl (.inl (.inr (RF.1 q)))
 ·rcases q with q|q
  ·exact .inl (.inl (.inl q))
  ·exact .inl (.inr q)
theorem aV(k:IntKind)(a b:Nat)(Z:0<b){y:Int}(e:y=(b:Nat)):aP (.ib .rem) [.int k (a:Int),.int k y]=some (.int k ((a%b:Nat):Int)):=by
 subst e;rw[iA _ _ _ oM];rfl
theorem pp(a b:Nat)(Z:a<256)(U:0<b){y:Int}(e:y=(b:Nat)):aP (.ib .quo) [ZY (a:Int),ZY y]=some (ZY ((a/b:Nat):Int)):=by
 have:a/b<=a:=RQ _ _;subst e;rw[iB _ _ _ oM];show some (ZY (aB .u8 ((a/b:Nat):Int)))=_;generalize a/b=q at this;rw[fwrap_u8 _ oM oM]
theorem GM(a i:Nat):∃m:Nat,m<256/\aB .u8 ((a:Int)+i)=(m:Int):=by
 have:aB .u8 ((a:Int)+i)=((a:Int)+i)%256:=by
  rw[bq];exact yaw
 refine⟨(((a:Int)+i)%256).toNat,oM,oM⟩
section
variable {P : Nat -> Prop} {hX h0 hh : Heap} {env : T V} {v u : V} {E : List Ent} {O : List Itm} {p3 p6 a c num B0 b0 b1 b2 b3 b4 : Nat} {Q : Ex -> T V -> Heap -> Prop}
theorem J7(wX:WF hX)(w0:WF h0)(FX:Fr [] hX h0)(F:Fr [] h0 hh)(kp:KQ P hX v E)(hE:E.length<=1000)(h6:hX.next<=p6/\p6<h0.next)(U:Own hh p6 Z5)(ha:a<=E.length)(hc:a+c<=E.length)
 (G:Gs hh h0.next 4 u (O.flatMap Itm.cells)) (R:∀y∈O,IS (Pu (P6 P p6) u) hh y) (hO:O.length<=3) (g1:env.get 1=some v) (g6:env.get 6=some (.ptr p6 0)) (g7:env.get 7=some (ZZ (a:Int))) (J:env.get 8=some (ZZ (c:Int))) (I:env.get 9=some u)
 (K:∀env' h' x,env'.get 6=some (.ptr p6 0)->Own h' p6 x.cells->NtG P h0.next h' x->Fr [] hX h'->x.n.k=5/\x.n.Y.length<=3+E.length->Q .ret env' h'):W go M1 env hh Q:=by
 have nX:=FX.next;simp only[evs,M1];refine aw (fun n env hh=>Fr [] h0 hh/\Own hh p6 Z5/\∃(j:Nat)(u:V)(O:List Itm),env.get 16=some (ZZ j)/\env.get 9=some u/\env.get 1=some v/\env.get 6=some (.ptr p6 0)/\env.get 7=some (ZZ (a:Int))/\env.get 8=some (ZZ (c:Int))/\j<=c/\
  Gs hh h0.next 4 u (O.flatMap Itm.cells)/\(∀y∈O,IS (Pu (P6 P p6) u) hh y)/\O.length<=3+j/\n=c-j) c oM ?_ ?_
 ·exact⟨F,U,0,u,O,iS,iX,iX,iX,iX,iX,oM,G,R,oM,rfl⟩
 clear F U G R hO g1 g6 g7 J I;rintro n env hh ⟨F,U,j,u,O,Z,I,g1,g6,g7,J,hj,G,R,hO,rfl⟩;have D:=FX.then F;by_cases cj:j<c
 ·obtain⟨bi,oi,e,p1,p2,p3,p4⟩:=(QI (kp.rs wX) D).ix aJ .i64 ((a+j:Nat):Int) oM oM;rw[so]at p4;have aj:((a+j:Nat):Int)=(a:Int)+j:=oM
  rw[aj]at p1;have em:=Of p4;have ie:IS (Pu (P6 P p6) u) hh e.x:=(kp.is em).step wX D iS fun z q=>by
   rcases q with(q|q)|q
   ·exact .inl q
   ·omega
   ·have:=G.vb z q;exact .inr oM
  have on:=(ie.H F.wf).one;have l4:aH hh bi oi 4=some e.x.cells:=ew (m:=2) p3;have u1:bF [ZX 0,ZY 0,.str [],.nils] 0 e.x.cells=some e.x.cells:=rfl;simp(disch:=omega) only[evs,seval,fwrap_i64,Z,I,g1,g7,J,eq_true (oM:(j:Int)<c),p1,l4,u1,(iR:e.x.cells.length=4)];refine iQ F.wf F.next G R ie oM ?_;rintro u' ab G6 i6 f6;have F6:=Ru w0 F f6 G.vb;simp(disch:=omega) only[evs,seval,fwrap_i64,Z];have ne:∀z∈vb u,z≠p6:=fun z m=>by have:=G.vb z m;omega
  refine rqn ⟨c-(j+1),oM,F6,f6.own _ _ (fun m=>ne _ m rfl) U,j+1,u',O++[e.x],iS,iS,iX,iX,iX,iX,oM,G6,i6,by simp;omega,rfl⟩
 ·simp only[evs,seval,Z,I,g6,J,eq_false (oM:¬(j:Int)<c),aq G.one];refine io (x:=⟨⟨5,0,0,0,O⟩,u⟩) F.wf U ⟨iS,by simp[i64],by simp[i64],by simp[i64],G,R⟩ oM ?_;rintro h' o' g' F';simp only[evs];exact K _ _ _ iX o' g' (D.fresh F' wX oM) ⟨rfl,by simp;omega⟩
end
end Go.Ev.Lay
