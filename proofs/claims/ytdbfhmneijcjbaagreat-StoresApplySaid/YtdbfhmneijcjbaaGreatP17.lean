/- An evaluator of the program, and contracts over it: MsRow to MsRow. -/
import Derived.Test.YtdbfhmneijcjbaaGreatRows
import Derived.ProofKit
import Derived.OpenShut
import Derived.Deep.Slices
import Derived.Deep.Strs
import Derived.Carry
import Derived.Test.YtdbfhmneijcjbaaGreatP04
import Derived.Test.YtdbfhmneijcjbaaGreatP16
set_option linter.unusedSimpArgs false
set_option linter.unusedVariables false
set_option linter.constructorNameAsVariable false
set_option linter.unnecessarySimpa false
namespace Go.Proofs.YtdbfhmneijcjbaaGreat
variable{α:Type}
open Go.ChangeShapes Go.WideShapes Go.ChangeAt Go.WideMaps Go.WideElems Go.RowKit Go.Deep
open Go.Ev (Jj uf cX)
theorem own:ownKnob Tryz.prog.godebug=none:=by kernel_rfl
theorem Bt:laidOutB Tryz.prog=true:=by kernel_rfl
theorem GB(a:Addr)(x j:Nat):(a.add x).add j=a.add (x+j):=by
 unfold Addr.add;by_cases c:x=0
 ·subst c;simp
 ·by_cases d:j=0
  ·subst d;simp
  ·simp[c,d,Nat.add_assoc]
theorem Gx(b off j:Nat):(⟨b,off,none⟩:Addr).add j=⟨b,off+j,none⟩:=by
 unfold Addr.add;by_cases c:j=0
 ·subst c;simp
 ·simp[c]
theorem DW{l:List α}{i:Nat}{v:α}(h:(l.drop i).take 1=[v]):l[i]? =some v:=by
 have:((l.drop i).take 1)[0]? =some v:=by rw[h];rfl
 rw[List.getElem?_take,if_pos (by omega),List.getElem?_drop]at this;simpa using this
section
variable {H : Type} {enc : TypeId × Value -> H} {W : World}
theorem c5:Tryz.prog.cellsOf 5=1:=by kernel_rfl
theorem LJ:Tryz.prog.cellsOf 203=4:=by kernel_rfl
theorem c60:Tryz.prog.cellsOf 60=3:=by kernel_rfl
theorem c57:Tryz.prog.cellsOf 57=1:=by kernel_rfl
theorem c58:Tryz.prog.cellsOf 58=1:=by kernel_rfl
theorem c55:Tryz.prog.cellsOf 55=1:=by kernel_rfl
theorem LB{l:List α}(h:l.length=4):∃a b c d,l=[a,b,c,d]:=by
 match l,h with
 |[a,b,c,d],_=>exact⟨a,b,c,d,rfl⟩
theorem Jl{l:List α}(h:l.length=3):∃a b c,l=[a,b,c]:=by
 match l,h with
 |[a,b,c],_=>exact⟨a,b,c,rfl⟩
def gq4(q:Nat×Nat×Nat×Nat):List uf:=[(.u8,(q.1:Int)),(.u8,(q.2.1:Int)),(.u8,(q.2.2.1:Int)),(.u8,(q.2.2.2:Int))]
def gb8(n:Nat):List uf:=[(.u8,(n:Int))]
theorem LK{n:Nat}{x:Value}{y:DataW H×List MemPlace}(h:DataW.trod enc Tryz.prog W 0 (fun _=>true) true n 5 [x]=some y):∃k:Nat,k<256/\x=.int .u8 (k:Int):=by
 obtain⟨Z,K,_,w0⟩:=DataW.trod_int Tryz.underlying5 h;have b0:=bounds_u8 w0;obtain⟨kk,rfl⟩:∃n:Nat,Z=n:=⟨Z.toNat,by omega⟩;exact⟨kk,by omega,by simpa using K⟩
theorem el8(n:Nat)(cs:List Value)(y:DataW H×List MemPlace)(h:DataW.trod enc Tryz.prog W 0 (fun _=>true) true n 5 cs=some y):∃a:Nat,a<256/\cs=(gb8 a).map cX:=by
 obtain⟨Z,K,_,w0⟩:=DataW.trod_int Tryz.underlying5 h;have b0:=bounds_u8 w0;obtain⟨kk,rfl⟩:∃n:Nat,Z=n:=⟨Z.toNat,by omega⟩;exact⟨kk,by omega,K⟩
theorem el4(n:Nat)(cs:List Value)(y:DataW H×List MemPlace)(h:DataW.trod enc Tryz.prog W 0 (fun _=>true) true n 203 cs=some y):∃q:Nat×Nat×Nat×Nat,(q.1<256/\q.2.1<256/\q.2.2.1<256/\q.2.2.2<256)/\cs=(gq4 q).map cX:=by
 obtain⟨xs,m1,rfl,_,Z,hn,he⟩:=DataW.trod_array Tryz.underlying203 h;rw[LJ]at Z;rw[c5]at he;have get:∀i,i<4->∃k:Nat,k<256/\cs[i]? =some (.int .u8 (k:Int)):=by
  intro i hi;have hx:xs[i]? =some (xs[i]'(by omega)):=List.getElem?_eq_getElem _;obtain⟨K,e0,_,w0⟩:=DataW.trod_int Tryz.underlying5 ((he i hi).trans hx);have b0:=bounds_u8 w0;obtain⟨kk,rfl⟩:∃n:Nat,K=n:=⟨K.toNat,by omega⟩;rw[Nat.mul_one]at e0;exact⟨kk,by omega,DW e0⟩
 obtain⟨a,ha,ea⟩:=get 0 (by omega);obtain⟨b,hb,eb⟩:=get 1 (by omega);obtain⟨c,hc,ec⟩:=get 2 (by omega);obtain⟨d,hd,ed⟩:=get 3 (by omega);refine⟨(a,b,c,d),⟨ha,hb,hc,hd⟩,?_⟩;obtain⟨v0,v1,v2,v3,rfl⟩:=LB Z;obtain rfl:v0=_:=by simpa using ea
 obtain rfl:v1=_:=by simpa using eb
 obtain rfl:v2=_:=by simpa using ec
 obtain rfl:v3=_:=by simpa using ed
 rfl
theorem Dx{cs:Array Value}(h:cs.size=3):∃x y z,cs= #[x,y,z]:=by
 obtain⟨l⟩:=cs;match l,h with
 |[x,y,z],_=>exact⟨x,y,z,rfl⟩
end
end Go.Proofs.YtdbfhmneijcjbaaGreat
