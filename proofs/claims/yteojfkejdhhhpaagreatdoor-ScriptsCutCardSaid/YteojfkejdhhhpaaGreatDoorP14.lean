/- An evaluator of the program, and contracts over it: SfC to ShD. -/
import Derived.Test.YteojfkejdhhhpaaGreatDoorP08
import Derived.Test.YteojfkejdhhhpaaGreatDoorP13
set_option linter.unusedSimpArgs false
set_option linter.unusedVariables false
set_option linter.constructorNameAsVariable false
set_option linter.unnecessarySimpa false
set_option maxRecDepth 4000
namespace Go.Ev.Lay
variable{lo hi mid N n i:Nat}{h hB h':Heap}{q:Knd}{α β:Type}{x y:Evt}{env0:T V}{Q:Ex->T V->Heap->Prop}{c:Cfg}{vE v:V}{Xs:List Evt}{S:List Nat}
open Go.Ev.St
theorem CKn.kh(a:CKn lo hi h q)(w:WF h):StI lo hi h fun h=>KndH h q:=fun X h2 hX f=>by
 obtain⟨m1,m2,h1,h2',h3,c,d,⟨n1,n2,n3⟩,s⟩:=a.fr w f hX;exact⟨n1,c.sl,n2,d.sl,n3,s.at f.wf,trivial⟩
theorem StI.and{φ ψ:Heap->Prop}(a:StI lo hi h φ)(b:StI lo hi h ψ):StI lo hi h fun h=>φ h/\ψ h:=fun X h2 hX f=>⟨a X h2 hX f,b X h2 hX f⟩
def EPp(k:Nat)(tg ky:Str)(sl:List Slo)(tx:Str)(vs vp:V)(sub:PT):Prop:=∀(h:Heap),WF h->PH h (.cons k tg ky sl tx vs vp sub .nil)->
 ay go 86 [.agg [ZY (k:Int),.str tg,.str ky,vs,.str tx,vp]] h fun u h'=>∃vs' vp' sub',u=.agg [ZY (k:Int),.str tg,.str ky,vs',.str tx,vp']/\sub'.er=sub.er/\Fr [] h h'/\CKn h.next h'.next h' ⟨k,tg,ky,sl,tx,vs',vp',sub',0,false,0⟩
def EPs:PT->Prop
 |.nil=>True
 |.cons k tg ky sl tx vs vp sub nx=>EPp k tg ky sl tx vs vp sub/\EPs nx
theorem EPs.at':∀{t:PT}(i:Nat),EPs t->EPs (t.at' i)
 |.nil,0,_=>trivial
 |.nil,_+1,_=>trivial
 |.cons _ _ _ _ _ _ _ _ _,0,a=>a
 |.cons _ _ _ _ _ _ _ _ _,i+1,⟨_,g⟩=>EPs.at' i g
theorem PT.er_app:∀a b:PT,(a.app b).er=a.er.app b.er
 |.nil,_=>rfl
 |.cons _ _ _ _ _ _ _ _ nx,b=>by simp only[PT.app,PT.er,PT.er_app nx b]
theorem PT.app_nil:∀t:PT,t.app .nil=t
 |.nil=>rfl
 |.cons _ _ _ _ _ _ _ _ nx=>by simp only[PT.app,PT.app_nil nx]
theorem PT.er_len:∀t:PT,t.er.len=t.len
 |.nil=>rfl
 |.cons _ _ _ _ _ _ _ _ nx=>by simp only[PT.er,PT.len,PT.er_len nx]
theorem Aa{k:Nat}{tg ky:Str}{sl:List Slo}{tx:Str}{vs vp:V}{sub:PT}(P:EPs sub):EPp k tg ky sl tx vs vp sub:=by
 intro h w ⟨hk,rs,bi,sp,bT,ph,_⟩;have zs:nZ vs=true:=rfl;have zp:nZ vp=true:=rfl;obtain⟨h1,ao,ax,a8⟩:=av w [ZY (k:Int),.str tg,.str ky,vs,.str tx,vp];obtain⟨h2,ak,D,a2⟩:=av ax.wf [ZY 0,.str [],.str [],.nils,.str [],.nils];have n1:=hnx ao
 have n2:=hnx ak
 have a6:=ax.then D;have ob:=D.get a8;have l3:=ob.l1 3;have l5:=ob.l1 5;refine aa ?_;simp only[evs,seval,<-ao,<-ak,l3];refine ae (qr rfl oM oM D.wf (Recs.a (QI rs a6)) zs oM) ?_;rintro ca h3 ⟨bu,F3⟩;simp only[evs];refine ae (qv rfl rfl F3.wf bu) ?_;rintro U _ ⟨gs,rfl⟩;simp only[evs,seval];refine ac (c':=[ZY (k:Int),.str tg,.str ky,U,.str tx,vp]) F3.wf (F3.get ob) (by simp[aq gs.one]) (by rw[aq gs.one];simp only[af,ag,gs.one];rfl) (by rw[aq gs.one];rfl) ?_;rintro h4 o4 F4 n4;have a4:Fr [] h h4:=(a6.then F3).fresh F4 w (pi _);have bh:=o4.l1 5;simp only[evs,seval,bh];refine ae (qr rfl oM oM F4.wf (Sl.a (sp.fr a4)) zp oM) ?_;rintro b6 h5 ⟨br,F5⟩;simp only[evs];refine ae (qv rfl rfl F5.wf br) ?_;rintro J _ ⟨gp,rfl⟩;simp only[evs,seval];refine ac (c':=[ZY (k:Int),.str tg,.str ky,U,.str tx,J]) F5.wf (F5.get o4) (by simp[aq gp.one]) (by rw[aq gp.one];simp only[af,ag,gp.one];rfl) (by rw[aq gp.one];rfl) ?_;rintro h6 o6 F6 n6;have bv:=o6.l1 5;have b7:=F3.next;have bY:=F5.next;have a9:=gp.fr F6 oO;simp only[evs,seval,bv,a9.sl.len];have bK:Fr [] h h6:=(a4.then F5).fresh F6 w (pi _);have bm:Own h6 h1.next [ZY 0,.str [],.str [],.nils,.str [],.nils]:=F6.own _ _ oO (F5.get (F4.own _ _ oO (F3.get a2)));have bo:Fr [h.next] h3 h6:=Qx (Qx (T:=[h.next]) F4 F5 F3.wf iS iS) F6 F3.wf iS iS;have bw:Cq 3 h2.next h3.next h6 U sl.length (sl.flatMap fE):=gs.fr bo oO;refine aw (fun n env I=>Fr [] h I/\h6.next<=I.next/\Own I h.next [ZY (k:Int),.str tg,.str ky,U,.str tx,J]/\Own I h1.next [ZY 0,.str [],.str [],.nils,.str [],.nils]/\Cq 3 h2.next h3.next I U sl.length (sl.flatMap fE)/\
  ∃(i:Nat)(d:PT),env.get 17=some (ZZ i)/\env.get 16=some (ZZ sub.len)/\env.get 1=some (.ptr h.next 0)/\env.get 2=some (.ptr h1.next 0)/\i<=sub.len/\d.len=i/\d.er.app (sub.at' i).er=sub.er/\
  Cq 6 h4.next h5.next I J sub.len (d.cells++sub.cells.drop (i*6))/\StI h6.next I.next I (fun h=>PH h d)/\n=sub.len-i) sub.len oM ?_ ?_
 ·exact⟨bK,pi _,o6,bm,bw,0,.nil,iS,iS,iS,iS,oM,rfl,by cases sub<;>rfl,by simpa[PT.cells]using a9,fun _ _ _ _=>trivial,rfl⟩
 ·rintro n env I ⟨F,hn,ox,oz,aE,i,d,a0,a7,g1,g2,hi,dl,ds,ad,dst,rfl⟩;have lx:=ox.l1 5;by_cases bN:i<sub.len
  ·have aA:(i:Int)<sub.len:=oM
   obtain⟨kc,aj,ab,slc,ah,bz,bn,sb,nx,e1,e2,e3,e4,e5,e6⟩:=sub.split i bN;have Pi:=P.at' i;have R:=ph.at' i;rw[e1]at Pi R ds;obtain⟨_,⟨z,_⟩|⟨bp,bc,bB,rfl,a1⟩⟩:=ad
   ·omega
   have dc:=d.cells_len;rw[dl]at dc;have q0:∀Y:List V,(d.cells++Y).drop (i*6)=Y:=fun Y=>by rw[<-dc,TF]
   have q1:∀Y:List V,(d.cells++Y).take (i*6)=d.cells:=fun Y=>by rw[<-dc,Ud]
   have q2:∀Y:List V,(d.cells++Y).drop (i*6+6)=Y.drop 6:=fun Y=>by rw[<-dc,Tk]
   have ix:=bO 6 bp 0 sub.len sub.len .i64 (i:Int) oM aA;simp only[so,Rc]at ix;have lc:aH I bp (i*6) 6=some [ZY (kc:Int),.str aj,.str ab,bz,.str ah,bn]:=by
    rw[a1.ld,bA,q0,e2];rfl
   simp only[evs,seval,eff,a0,a7,g1,aA,lx,ix,lc];refine ae (Pi.1 I F.wf (PH.fr F ⟨R.1,R.2.1,R.2.2.1,R.2.2.2.1,R.2.2.2.2.1,R.2.2.2.2.2.1,trivial⟩)) ?_;rintro _ h7 ⟨aR,aF,bf,rfl,sm,Z,ck⟩;have bt:=(Z.get ox).l1 5;have a5:=ck.kh Z.wf;have on:az [ZY (kc:Int),.str aj,.str ab,aR,.str ah,aF]=true:=Uc (a5.at Z.wf);simp only[evs,eff,ix];have eC:bF (d.cells++sub.cells.drop (i*6)) (i*6) [ZY (kc:Int),.str aj,.str ab,aR,.str ah,aF]=some ((d.app (.cons kc aj ab slc ah aR aF bf .nil)).cells++sub.cells.drop ((i+1) *6)):=by
    rw[mF _ _ _ (by rw[Qv,dc,e2];simp),PT.app_cells];congr 1;show _++_++(d.cells++sub.cells.drop (i*6)).drop (i*6+6)=_;rw[q1,q2,RC,(oM:i*6+6=(i+1) *6)];simp[PT.cells]
   refine ac Z.wf (Z.get a1) rfl on eC ?_;rintro h8 o8 F8 n8;have bP:=Z.next;have bL:Fr [] h h8:=(F.then Z).fresh F8 w oM;simp(disch:=omega) only[evs,seval,DF,fwrap_i64,a0,lx,bt,lc];refine rqn ⟨sub.len-(i+1),oM,bL,oM,F8.own _ _ oO (Z.get ox),F8.own _ _ oO (Z.get oz),(aE.fr Z iS).fr F8 oO,i+1,_,iS,iX,iX,iX,oM,?_,?_,⟨?_,.inr ⟨bp,bc,bB,rfl,o8⟩⟩,?_,rfl⟩
   ·rw[TN,dl];rfl
   ·rw[PT.er_app,e3,<-ds];simp only[PT.er,sm];have:∀a b c:PT,(a.app b).app c=a.app (b.app c):=fun a=>by
     induction a with
     |nil=>intro b c;rfl
     |cons _ _ _ _ _ _ _ _ nx _ ih=>intro b c;simp only[PT.app,ih]
    rw[this];rfl
   ·rw[Qv,PT.app_cells,Qv,dc,Sq,PT.cells_len,PT.cells_len];simp only[PT.len];omega
   ·intro X h9 hX f9;have a3:Fr ([bp]++X) h7 h9:=Qx F8 f9 Z.wf (fun y hy=>.inl (by simp at hy;simp[hy])) (fun y hy=>.inl iX);have bg:Fr ([bp]++X) I h9:=Qx Z a3 F.wf iS (fun y hy=>.inl hy);refine PH.app (dst _ h9 ?_ bg) (a5 _ h9 ?_ a3)
    ·grind
    ·grind
  ·have hi':i=sub.len:=oM
   have l6:=ox.at6.2.2.2.2.2.2;have bE:=ad.one;have bI:=aE.one;simp only[evs,seval,a0,a7,g1,g2,(oM:¬(i:Int)<sub.len),l6];refine ac (c':=[ZY (k:Int),.str tg,.str ky,U,.str tx,J]) F.wf oz rfl (by simp only[V.cells,af,ag,bI,bE];rfl) rfl ?_;rintro h7 o7 Z n7;simp only[evs,seval,g2,o7.at6.2.2.2.2.2.2];subst hi';rw[QF (by rw[PT.cells_len];omega),Rq]at ad;rw[Uh _ _ (pi _)]at ds;have ds:d.er=sub.er:=by
    have:=ds;simp only[PT.er,PT.app_nil]at this;exact this
   refine⟨U,J,d,rfl,ds,F.fresh Z w oM,h3.next,h5.next,oM,oM,oM,(aE.fr Z oO).wk oM (pi _),?_,⟨hk,bi,by show d.len<=4096;omega⟩,?_⟩
   ·show Cq 6 h3.next h5.next h7 J d.len d.cells;rw[dl];exact(ad.fr Z oO).wk oM (pi _)
   ·show StI h5.next h7.next h7 fun h=>PH h d;rw[n7];exact(dst.fr F.wf Z oO).wk oM (pi _)
theorem eps:∀t:PT,EPs t
 |.nil=>trivial
 |.cons _ _ _ _ _ _ _ sub nx=>⟨Aa (eps sub),eps nx⟩
abbrev cpI:IC:=.seq (.ops [⟨none,.p (.ib .lss) [.v 77,.v 76],some 78⟩]) (.seq (.cond (.v 78) (.skip) (.exit 6)) (.seq (.block 7 (.seq (.ops [⟨none,.p .mv [.v 77],some 8⟩]) (.dops [zA 4 7,zL,zm 8,zA 4 7,zL,zm 8,zp (.ixs 4) [.l 1,.l 0],za 3,zL,zc 95 [.l 0],zc 94 [.l 0],zp (.ixs 4) [.l 9,.l 8],za 3,zn (.st 1 (.l 0) (.l 2))] [] [] [(1,0,2),(4,0,0),(8,0,0)] []))) (.ops [zp (.ib .add) [.v 77,.c (ZZ 1)],⟨none,.p .mv [.l 0],some 77⟩])))
abbrev cpN:IC:=.seq (.ops [⟨none,.p (.ib .lss) [.v 64,.v 63],some 65⟩]) (.seq (.cond (.v 65) (.skip) (.exit 4)) (.seq (.block 5 (.seq (.ops [zp (.ixs 5) [.v 62,.v 64],zn (.ld 5 true (.l 0)),⟨none,.al [(ZY 0),(ZZ 0),(ZZ 0),(ZZ 0),.nils],some 7⟩,⟨none,.p .mv [.v 64],some 6⟩,zn (.st 5 (.v 7) (.l 0))]) (.seq (.ops [zA 4 7,zL,zc 93 [.l 0],zc 92 [.l 0],zA 4 7,zn (.st 1 (.l 0) (.l 1))]) (.seq (.seq (.ops [zA 4 7,zL,⟨none,.p .lenS [.l 0],some 76⟩,⟨none,.p .mv [.c (ZZ 0)],some 77⟩]) (.block 6 (.loop cpI))) (.ops [zA 3 5,zL,zn (.ld 5 true (.v 7)),zp (.ixs 5) [.l 1,.v 6],zn (.st 5 (.l 0) (.l 1))]))))) (.ops [zp (.ib .add) [.v 64,.c (ZZ 1)],⟨none,.p .mv [.l 0],some 64⟩])))
abbrev cpE:IC:=.seq (.ops [⟨none,.p (.ib .lss) [.v 46,.v 45],some 47⟩]) (.seq (.cond (.v 47) (.skip) (.exit 2)) (.seq (.block 3 (.seq (.ops [zp (.ixs 5) [.v 44,.v 46],zn (.ld 5 true (.l 0)),⟨none,.al [(ZY 0),(ZZ 0),(ZX 0),.nils,.nils],some 5⟩,⟨none,.p .mv [.v 46],some 4⟩,zn (.st 5 (.v 5) (.l 0))]) (.seq (.ops [zA 4 5,zL,zc 89 [.l 0],zc 88 [.l 0],zA 4 5,zn (.st 1 (.l 0) (.l 1))]) (.seq (.ops [zA 3 5,zL,zc 91 [.l 0],zc 90 [.l 0],zA 3 5,zn (.st 1 (.l 0) (.l 1))]) (.seq (.seq (.ops [zA 3 5,⟨none,.ld 1 false (.l 0),some 62⟩,⟨none,.p .lenS [.v 62],some 63⟩,⟨none,.p .mv [.c (ZZ 0)],some 64⟩]) (.block 4 (.loop cpN))) (.ops [zA 7 1,zL,zn (.ld 5 true (.v 5)),zp (.ixs 5) [.l 1,.v 4],zn (.st 5 (.l 0) (.l 1))])))))) (.ops [zp (.ib .add) [.v 46,.c (ZZ 1)],⟨none,.p .mv [.l 0],some 46⟩])))
open Go.Ev.St
theorem mG(D r:List α)(y Z:α):(D++y::r).set D.length Z=D++[Z]++r:=by grind
theorem ET{bx:Nat}{x:Nt}{h0:Heap}(wB:WF hB)(FB:Fr [] hB h0)(a2:hB.next<=lo)(ob:Own h0 bx x.cells)(gI:Cq 4 lo mid h0 x.v x.n.Y.length (x.n.Y.flatMap Itm.cells))(hm:mid<=h0.next)(hb:bx<lo)
 (hY:∀y∈x.n.Y,ItmH hB y) (nY:x.n.Y.length<=100000) (e7:env0.get 7=some (.ptr bx 0)) (a0:env0.get 76=some (ZZ x.n.Y.length)) (aF:env0.get 77=some (ZZ 0))
 (k:∀(I:T V)(h':Heap)(D:List Itm),(∀j,j<76->j≠8->I.get j=env0.get j)->(∃S,(∀z∈S,lo<=z/\z<mid)/\Fr S h0 h')->D.map Itm.er=x.n.Y.map Itm.er->Cq 4 lo mid h' x.v D.length (D.flatMap Itm.cells)->StI mid h'.next h' (fun h=>∀y∈D,ItmH h y)->mid<=h'.next->Q (.exit 6) I h'):
 W go (.loop cpI) env0 h0 Q:=by
 have w0:=FB.wf;have lY:=gI.sl.len;refine aw (fun z env Z=>(∃S,(∀z∈S,lo<=z/\z<mid)/\Fr S h0 Z)/\(∀j,j<76->j≠8->env.get j=env0.get j)/\h0.next<=Z.next/\∃(i:Nat)(D:List Itm),env.get 77=some (ZZ i)/\env.get 76=some (ZZ x.n.Y.length)/\env.get 7=some (.ptr bx 0)/\i<=x.n.Y.length/\D.length=i/\
  D.map Itm.er=(x.n.Y.take i).map Itm.er/\Own Z bx x.cells/\Cq 4 lo mid Z x.v x.n.Y.length ((D++x.n.Y.drop i).flatMap Itm.cells)/\StI mid Z.next Z (fun h=>∀y∈D,ItmH h y)/\z=x.n.Y.length-i) x.n.Y.length oM ?_ ?_
 ·exact⟨⟨[],iS,Qw w0⟩,fun _ _ _=>rfl,pi _,0,[],aF,a0,e7,oM,rfl,iS,ob,by simpa using gI,fun _ _ _ _=>by simp,rfl⟩
 ·rintro z env Z ⟨⟨S,hS,F⟩,ge,hn,i,D,ad,aj,g7,hi,dl,de,oh,gh,st,rfl⟩;have wh:=F.wf;have l4:∀{h'},Fr [] Z h'->ai h' bx 4=some x.v:=fun f=>(f.get oh).ld1 4;by_cases ci:i<x.n.Y.length
  ·obtain⟨y,ey⟩:∃y,x.n.Y[i]? =some y:=⟨_,Qq ci⟩;have ym:=Of ey;have eL:D++x.n.Y.drop i=D++y::x.n.Y.drop (i+1):=by rw[aX ey]
   rw[eL]at gh;obtain⟨gl,⟨z,_⟩|⟨J,b1,b2,ev,ao⟩⟩:=gh
   ·omega
   have Fb:Fr [] hB Z:=Ru wB FB F (fun z m=>by have:=(hS z m).1;omega);have yh:=(hY y ym).fr Fb;have ix:=bO 4 J 0 x.n.Y.length x.n.Y.length .i64 (i:Int) oM oM;simp only[so,Rc]at ix;rw[<-ev]at ix;have l3:ai Z J (i*4+3)=some y.vm:=by
    rw[ao.ld1,fq,QV,Rv (by rw[au b8,dl];omega),au b8,dl,(oM:i*4+3-i*4=3)];rfl
   have rr:=Qw (S:=[]) wh;simp only[evs,seval,eff,cpI,ad,aj,g7,eq_true (oM:(i:Int)<x.n.Y.length),l4 rr,ix,l3];refine ae (qr rfl oM oM wh yh.m rfl (by have:=yh.n;omega)) ?_;rintro a1 h1 ⟨aR,R⟩;simp only[evs,eff];refine ae (qv rfl rfl R.wf aR) ?_;rintro ah _ ⟨gv,rfl⟩;have n1:=R.next;have v1:=gv.one;obtain⟨U,ab⟩:∃U:Itm,U=⟨y.key,y.type,y.text,y.marks,ah⟩:=⟨_,rfl⟩;have iy:∀{h'},Cq 1 Z.next h1.next h' ah y.marks.length (y.marks.flatMap sS)->ItmH h' U:=fun g=>by
    rw[ab];exact⟨yh.k,yh.t,Sl.a g.sl,yh.n,yh.l⟩
   simp only[evs,eff,ix];have up:=aS b8 (y:=U) (o:=3) (vs:=[ah]) (D++y::x.n.Y.drop (i+1)) i y (by rw[Rv oM,dl,TY];rfl) (by rw[ab];rfl);rw[show(D++y::x.n.Y.drop (i+1)).set i U=D++[U]++x.n.Y.drop (i+1) by rw[<-dl];exact mG D _ y U]at up;refine ac (c':=(D++[U]++x.n.Y.drop (i+1)).flatMap Itm.cells) R.wf (R.get ao) (by rw[aq v1];rfl) (by rw[aq v1];simp only[af,ag,v1];rfl) (by rw[aq v1];exact up) ?_;rintro h2 o2 F2 n2;simp(disch:=omega) only[evs,seval,DF,fwrap_i64,ad,l4 rr,l4 R,l3];have ax:J≠bx:=oM
   have S2:Fr (J::S) h0 h2:=Qx (Qx F R w0 (fun z m=>.inl m) iS:Fr S h0 h1) F2 w0 (fun z m=>.inl (QO _ m)) (fun z m=>.inl (by simp at m;simp[m]));refine rqn ⟨x.n.Y.length-(i+1),oM,⟨J::S,fun z m=>?_,S2⟩,fun j h1 h2=>?_,oM,i+1,D++[U],iS,iX,iX,oM,by simp[dl],?_,F2.own _ _ (by simpa using fun q=>ax q.symm) (R.get oh),?_,?_,rfl⟩
   ·grind
   ·simp[(oM:j≠78),(oM:j≠8),(oM:j≠77)];exact ge j h1 h2
   ·rw[QS,ey,RL,RL,de,ab];rfl
   ·have aA:=au b8 (D++[U]++x.n.Y.drop (i+1));exact⟨by rw[aA];simp;omega,.inr ⟨J,b1,b2,ev,o2⟩⟩
   ·intro X h3 hX f3 q mq;have ak:Fr (J::X) h1 h3:=Qx F2 f3 R.wf (fun z m=>.inl (by simp at m;simp[m])) (fun z m=>.inl (QO _ m));have aE:Fr (J::X) Z h3:=Qx R ak wh iS (fun z m=>.inl m);rcases Qp.1 mq with mq|mq
    ·refine st _ h3 (fun z m=>?_) aE q mq;rcases Qy.1 m with rfl|m
     ·exact .inl b2
     ·grind
    ·simp at mq;subst mq;refine iy (gv.fr ak fun z m=>?_);rcases Qy.1 m with rfl|m
     ·omega
     ·grind
  ·simp only[evs,seval,cpI,ad,aj,eq_false (oM:¬(i:Int)<x.n.Y.length)];rw[Qs oM]at de;rw[QF oM,Rq]at gh;have dn:D.length=x.n.Y.length:=oM
   rw[<-dn]at gh;exact k _ _ D (fun j h1 h2=>by simp[(oM:j≠78)];exact ge j h1 h2) ⟨S,hS,F⟩ de gh st oM
theorem Ez{b5:Nat}{h0:Heap}(wB:WF hB)(FB:Fr [] hB h0)(bw:hB.next<=lo)(ob:Own h0 b5 x.cells)(gN:Cq 5 lo mid h0 x.vN x.Ns.length (x.Ns.flatMap Nt.cells))(hm:mid<=h0.next)(hb:b5<lo)
 (hN:∀y∈x.Ns,NtH hB y) (nN:x.Ns.length<=100000) (e5:env0.get 5=some (.ptr b5 0)) (a9:env0.get 62=some x.vN) (bn:env0.get 63=some (ZZ x.Ns.length)) (bi:env0.get 64=some (ZZ 0))
 (k:∀(U:T V)(h':Heap)(D:List Nt),(∀j,j<62->j≠6->j≠7->j≠8->U.get j=env0.get j)->(∃S,(∀z∈S,lo<=z/\z<mid)/\Fr S h0 h')->D.map Nt.er=x.Ns.map Nt.er->Cq 5 lo mid h' x.vN D.length (D.flatMap Nt.cells)->CNz h'.next h' mid D->mid<=h'.next->Q (.exit 4) U h'):
 W go (.loop cpN) env0 h0 Q:=by
 have w0:=FB.wf;refine aw (fun z env R=>(∃S,(∀z∈S,lo<=z/\z<mid)/\Fr S h0 R)/\(∀j,j<62->j≠6->j≠7->j≠8->env.get j=env0.get j)/\h0.next<=R.next/\∃(i:Nat)(D:List Nt),env.get 64=some (ZZ i)/\env.get 63=some (ZZ x.Ns.length)/\env.get 62=some x.vN/\env.get 5=some (.ptr b5 0)/\i<=x.Ns.length/\D.length=i/\
  D.map Nt.er=(x.Ns.take i).map Nt.er/\Own R b5 x.cells/\Cq 5 lo mid R x.vN x.Ns.length ((D++x.Ns.drop i).flatMap Nt.cells)/\CNz R.next R mid D/\z=x.Ns.length-i) x.Ns.length oM ?_ ?_
 ·exact⟨⟨[],iS,Qw w0⟩,fun _ _ _ _ _=>rfl,pi _,0,[],bi,bn,a9,e5,oM,rfl,iS,ob,by simpa using gN,hm,rfl⟩
 ·rintro z env R ⟨⟨S,hS,F⟩,ge,hn,i,D,ao,ax,aR,g5,hi,dl,de,oh,gh,st,rfl⟩;have wh:=F.wf;have l3:∀{h':Heap}{Z:List Nat},Fr Z R h'->b5∉Z->ai h' b5 3=some x.vN:=fun f q=>(f.own _ _ q oh).ld1 3;by_cases ci:i<x.Ns.length
  ·obtain⟨y,ey⟩:∃y,x.Ns[i]? =some y:=⟨_,Qq ci⟩;have ym:=Of ey;have eL:D++x.Ns.drop i=D++y::x.Ns.drop (i+1):=by rw[aX ey]
   rw[eL]at gh;have gl:=gh.1;obtain⟨_,⟨z,_⟩|⟨bN,b1,b2,ev,aE⟩⟩:=gh
   ·omega
   have Fb:Fr [] hB R:=Ru wB FB F (fun z m=>by have:=(hS z m).1;omega);have yh:=(hN y ym).fr Fb;have yv:=yh.n;have ix:=bO 5 bN 0 x.Ns.length x.Ns.length .i64 (i:Int) oM oM;simp only[so,Rc]at ix;rw[<-ev]at ix;have p3:aH R bN (i*5) 5=some y.cells:=by
    rw[aE.ld,bA,QV,<-dl,<-au fJ D,TF];rfl
   have on:=yh.on;obtain⟨h3,ak,aj,a3⟩:=av wh [ZY 0,ZZ 0,ZZ 0,ZZ 0,.nils];have n3:=hnx ak
   simp only[evs,seval,cpN,ao,ax,aR,eq_true (oM:(i:Int)<x.Ns.length),ix,p3,<-ak];refine ac aj.wf a3 rfl on rfl ?_;rintro h4 o4 F4 n4;have aF:Fr [] R h4:=aj.fresh F4 wh (pi _);have l4:=o4.l1 4;simp only[evs,seval,l4];refine ae (qr rfl oM oM F4.wf (Sl.a (yh.fr aF).r) rfl oM) ?_;rintro v0 h5 ⟨a7,F5⟩;simp only[evs];refine ae (qv rfl rfl F5.wf a7) ?_;rintro v' _ ⟨gv,rfl⟩;have n5:=F5.next;have v1:=gv.one;obtain⟨y1,J⟩:∃y1:Nt,y1=⟨y.n,v'⟩:=⟨_,rfl⟩;simp only[evs,seval];refine ac (c':=y1.cells) F5.wf (F5.get o4) (by rw[aq v1];rfl) (by rw[aq v1];simp only[af,ag,v1];rfl) (by rw[aq v1,J];rfl) ?_;rintro h6 o6 F6 n6;have a0:Fr [] R h6:=(aF.then F5).fresh F6 wh (pi _);have bt:ai h6 R.next 4=some v':=by rw[o6.ld1,J];rfl
   have a2:Cq 4 h4.next h5.next h6 v' y.n.Y.length (y.n.Y.flatMap Itm.cells):=gv.fr F6 oO;simp only[evs,seval,bt,a2.sl.len];refine ET (x:=y1) (lo:=h4.next) (mid:=h5.next) (bx:=R.next) (hB:=hB) wB (Fb.then a0) (by have:=Fb.next;omega) o6 (by rw[J];exact a2) oM oM (by rw[J];exact(hN y ym).i) (by rw[J];show y.n.Y.length<=_;omega) iS iX iS ?_;rintro U h7 D' I ⟨S7,aA,F7⟩ br gI bg m7;have bc:U.get 5=some (.ptr b5 0):=by rw[I 5 oM oM];simp[g5]
   have a5:U.get 7=some (.ptr R.next 0):=by rw[I 7 oM oM];simp
   have bh:U.get 6=some (ZZ i):=by rw[I 6 oM oM];simp
   have a1:U.get 64=some (ZZ i):=by rw[I 64 oM oM];simp[ao]
   have bu:U.get 63=some (ZZ x.Ns.length):=by rw[I 63 oM oM];simp[ax]
   have bv:U.get 62=some x.vN:=by rw[I 62 oM oM];simp[aR]
   have a4:∀j,j<62->j≠6->j≠7->j≠8->U.get j=env0.get j:=fun j h1 h2 h3 h4=>by
    rw[I j oM h4];simp[(oM:j≠77),(oM:j≠76),(oM:j≠6),(oM:j≠7),(oM:j≠65)];exact ge j h1 h2 h3 h4
   have ab:Fr S7 R h7:=Qx a0 F7 wh iS (fun z m=>.inl m);have bl:=oh.lt wh;have bz:=aE.lt wh;have ah:∀{z},z<h4.next->z∉S7:=fun h m=>by have:=(aA _ m).1;omega
   have o7:Own h7 R.next y1.cells:=F7.own _ _ (ah oM) o6;have bm:=ab.own _ _ (ah oM) aE;have lb:ai h7 b5 3=some x.vN:=l3 ab (ah oM);have lc:=o7.la 5
   have a8:az y1.cells=true:=by
    rw[J];show az [_,_,_,_,v']=true;simp only[af,ag,v1];rfl
   obtain⟨y2,ad⟩:∃y2:Nt,y2=⟨⟨y.n.k,y.n.a,y.n.c,y.n.t,D'⟩,v'⟩:=⟨_,rfl⟩;have bf:y2.cells=y1.cells:=by rw[J,ad];rfl
   simp only[evs,seval,bc,a5,bh,lb,lc,ix];have up:=aS fJ (y:=y2) (o:=0) (vs:=y1.cells) (D++y::x.Ns.drop (i+1)) i y (by rw[Rv oM,dl,TY];rfl) (by rw[<-bf,ad];rfl);rw[show(D++y::x.Ns.drop (i+1)).set i y2=D++[y2]++x.Ns.drop (i+1) by rw[<-dl];exact mG D _ y y2,RG]at up;refine ac F7.wf bm rfl a8 up ?_;rintro h8 o8 F8 n8;have n7:=ab.next;have Fs:Fr S h0 h7:=Qx F ab w0 (fun z m=>.inl m) (fun z m=>.inr (by have:=(aA z m).1;omega));have Fn:Fr (bN::S) h0 h8:=Qx Fs F8 w0 (fun z m=>.inl (QO _ m)) (fun z m=>.inl (by simp at m;simp[m]));have nb:b5≠bN:=oM
   have lS:∀{z},z∈bN::S->lo<=z/\z<mid:=fun{z} m=>by grind
   have c7:CNt R.next h7.next h7 y2:=by
    rw[ad];refine⟨h5.next,oM,m7,?_,bg⟩;have:=gI.wk (lo':=R.next) (hi':=h5.next) oM (pi _);rw[J]at this;exact this
   have c8:CNt R.next h8.next h8 y2:=by
    have:=c7.fr F7.wf F8 (fun z m=>.inl (by simp at m;omega));rwa[n8]
   have a6:CNz R.next h8 mid D:=CNz.fr F7.wf F8 (CNz.fr wh ab st fun z m=>.inr (by have:=(aA z m).1;omega)) fun z m=>.inl (by simp at m;omega);simp(disch:=omega) only[evs,fwrap_i64,a1];refine rqn ⟨x.Ns.length-(i+1),oM,⟨bN::S,fun z m=>lS m,Fn⟩,fun j h1 h2 h3 h4=>?_,oM,i+1,D++[y2],iS,iX,iX,iX,oM,by simp[dl],?_,F8.own _ _ (eV nb) (ab.own _ _ (ah oM) oh),?_,CNz.snoc c8 a6,rfl⟩
   ·simp[(oM:j≠64)];exact a4 j h1 h2 h3 h4
   ·rw[QS,ey,RL,RL,de];congr 1;show[y2.er]=[y.er];rw[ad,Nt.er,Nt.er,br,J]
   ·have bo:=au fJ (D++[y2]++x.Ns.drop (i+1));exact⟨by rw[bo];simp;omega,.inr ⟨bN,b1,b2,ev,o8⟩⟩
  ·simp only[evs,seval,cpN,ao,ax,eq_false (oM:¬(i:Int)<x.Ns.length)];rw[Qs oM]at de;rw[QF oM,Rq]at gh;have dn:D.length=x.Ns.length:=oM
   rw[<-dn]at gh;exact k _ _ D (fun j h1 h2 h3 h4=>by simp[(oM:j≠65)];exact ge j h1 h2 h3 h4) ⟨S,hS,F⟩ de gh st oM
theorem Fj{b1:Nat}{h0:Heap}(wB:WF hB)(FB:Fr [] hB h0)(b6:hB.next<=lo)(ob:Own h0 b1 (scC c vE))(gE:Cq 5 lo mid h0 vE Xs.length (Xs.flatMap Evt.cells))(hm:mid<=h0.next)(hb:b1<lo)
 (hX:∀x∈Xs,EvtH hB x N) (nX:Xs.length<=100000) (e1:env0.get 1=some (.ptr b1 0)) (bt:env0.get 44=some vE) (bz:env0.get 45=some (ZZ Xs.length)) (bK:env0.get 46=some (ZZ 0))
 (k:∀(Z:T V)(h':Heap)(D:List Evt),(∀j,j<4->Z.get j=env0.get j)->(∃S,(∀z∈S,lo<=z/\z<mid)/\Fr S h0 h')->D.map Evt.er=Xs.map Evt.er->Cq 5 lo mid h' vE D.length (D.flatMap Evt.cells)->CEs h'.next h' mid D->mid<=h'.next->Q (.exit 2) Z h'):
 W go (.loop cpE) env0 h0 Q:=by
 have w0:=FB.wf;refine aw (fun z env U=>(∃S,(∀z∈S,lo<=z/\z<mid)/\Fr S h0 U)/\(∀j,j<4->env.get j=env0.get j)/\h0.next<=U.next/\∃(i:Nat)(D:List Evt),env.get 46=some (ZZ i)/\env.get 45=some (ZZ Xs.length)/\env.get 44=some vE/\env.get 1=some (.ptr b1 0)/\i<=Xs.length/\D.length=i/\
  D.map Evt.er=(Xs.take i).map Evt.er/\Own U b1 (scC c vE)/\Cq 5 lo mid U vE Xs.length ((D++Xs.drop i).flatMap Evt.cells)/\CEs U.next U mid D/\z=Xs.length-i) Xs.length oM ?_ ?_
 ·exact⟨⟨[],iS,Qw w0⟩,fun _ _=>rfl,pi _,0,[],bK,bz,bt,e1,oM,rfl,iS,ob,by simpa using gE,hm,rfl⟩
 ·rintro z env U ⟨⟨S,hS,F⟩,ge,hn,i,D,ax,aE,a3,g1,hi,dl,de,oh,gh,st,rfl⟩;have wh:=F.wf;by_cases ci:i<Xs.length
  ·obtain⟨y,ey⟩:∃y,Xs[i]? =some y:=⟨_,Qq ci⟩;have ym:=Of ey;have eL:D++Xs.drop i=D++y::Xs.drop (i+1):=by rw[aX ey]
   rw[eL]at gh;obtain⟨_,⟨z,_⟩|⟨bE,b2,b3,ev,aF⟩⟩:=gh
   ·omega
   have Fb:Fr [] hB U:=Ru wB FB F (fun z m=>by have:=(hS z m).1;omega);have yh:=(hX y ym).fr Fb;have yn:=yh.n;have bY:=yh.t.n;have ix:=bO 5 bE 0 Xs.length Xs.length .i64 (i:Int) oM oM;simp only[so,Rc]at ix;rw[<-ev]at ix;have p3:aH U bE (i*5) 5=some y.cells:=by
    rw[aF.ld,bA,QV,<-dl,<-au aZ D,TF];rfl
   have on:=yh.on;have ca:y.vN.one=true:=RI yh.rn;obtain⟨h3,ao,ak,a8⟩:=av wh [ZY 0,ZZ 0,ZX 0,.nils,.nils];have n3:=hnx ao
   simp only[evs,seval,cpE,ax,aE,a3,eq_true (oM:(i:Int)<Xs.length),ix,p3,<-ao];refine ac ak.wf a8 rfl on rfl ?_;rintro h4 o4 F4 n4;have a2:Fr [] U h4:=ak.fresh F4 wh (pi _);have l4:=o4.l1 4;simp only[evs,seval,l4];refine ae (qr rfl oM oM F4.wf (Sl.a (yh.fr a2).t.r) rfl oM) ?_;rintro v0 h5 ⟨bf,F5⟩;simp only[evs];refine ae (qv rfl rfl F5.wf bf) ?_;rintro aA _ ⟨gT,rfl⟩;have n5:=F5.next;have t1:=gT.one;simp only[evs,seval];refine ac F5.wf (F5.get o4) (by rw[aq t1];rfl) (by rw[aq t1];simp only[af,ag,t1];rfl) (by rw[aq t1];rfl) ?_;rintro h6 o6 F6 n6;have a5:Fr [] U h6:=(a2.then F5).fresh F6 wh (pi _);have bv:=o6.l1 3;have bi:=gT.fr F6 (X:=[U.next]) oO;simp only[evs,seval,bv];refine ae (qr rfl oM oM F6.wf (Sl.a (yh.fr a5).rn) rfl oM) ?_;rintro b7 h7 ⟨bu,F7⟩;simp only[evs];refine ae (qv rfl rfl F7.wf bu) ?_;rintro ad _ ⟨gN,rfl⟩;have n7:=F7.next;have u1:=gN.one;obtain⟨y1,R⟩:∃y1:Evt,y1=⟨y.k,y.to,y.key,ad,y.Ns,aA,y.Tl⟩:=⟨_,rfl⟩;simp only[evs,seval];refine ac (c':=y1.cells) F7.wf (F7.get o6) (by rw[aq u1];rfl) (by rw[aq u1];simp only[af,ag,u1];rfl) (by rw[aq u1,R];rfl) ?_;rintro h8 o8 F8 n8;have a4:Fr [U.next] h6 h8:=Qx F7 F8 F6.wf iS (fun z m=>.inl m);have a6:Fr [] U h8:=a5.fresh a4 wh (pi _);have a1:=gN.fr F8 oO;have bm:=bi.fr a4 (X:=[U.next]) oO;have bw:ai h8 U.next 3=some ad:=by rw[o8.ld1,R];rfl
   simp only[evs,seval,bw,a1.sl.len];refine Ez (x:=y1) (lo:=h6.next) (mid:=h7.next) (b5:=U.next) (hB:=hB) wB (Fb.then a6) (by have:=Fb.next;omega) o8 (by rw[R];exact a1) oM oM (by rw[R];exact(hX y ym).hx) (by rw[R];show y.Ns.length<=_;omega) iS iX iX iS ?_;rintro Z h9 D' J ⟨S9,aj,F9⟩ bL gI bo m9;have bN:Z.get 1=some (.ptr b1 0):=by rw[J 1 oM oM oM oM];simp[g1]
   have bh:Z.get 5=some (.ptr U.next 0):=by rw[J 5 oM oM oM oM];simp
   have bB:Z.get 4=some (ZZ i):=by rw[J 4 oM oM oM oM];simp
   have a0:Z.get 46=some (ZZ i):=by rw[J 46 oM oM oM oM];simp[ax]
   have bP:Z.get 45=some (ZZ Xs.length):=by rw[J 45 oM oM oM oM];simp[aE]
   have bT:Z.get 44=some vE:=by rw[J 44 oM oM oM oM];simp[a3]
   have a9:∀j,j<4->Z.get j=env0.get j:=fun j h1=>by
    rw[J j oM oM oM oM];simp[(oM:j≠64),(oM:j≠63),(oM:j≠62),(oM:j≠4),(oM:j≠5),(oM:j≠47)];exact ge j h1
   have ab:Fr S9 U h9:=Qx a6 F9 wh iS (fun z m=>.inl m);have bl:=oh.lt wh;have cc:=aF.lt wh;have aR:∀{z},z<h6.next->z∉S9:=fun h m=>by have:=(aj _ m).1;omega
   have o9:Own h9 U.next y1.cells:=F9.own _ _ (aR oM) o8;have br:=ab.own _ _ (aR oM) aF;have a7:=ab.own _ _ (aR oM) oh;have lb:=a7.l1 7;have lc:=o9.la 5
   have bg:az y1.cells=true:=by
    rw[R];show az [_,_,_,ad,aA]=true;simp only[af,ag,u1,t1];rfl
   obtain⟨I,ah⟩:∃I:Evt,I=⟨y.k,y.to,y.key,ad,D',aA,y.Tl⟩:=⟨_,rfl⟩;have bn:I.cells=y1.cells:=by rw[R,ah];rfl
   simp only[evs,seval,bN,bh,bB,lb,lc,ix];have up:=aS aZ (y:=I) (o:=0) (vs:=y1.cells) (D++y::Xs.drop (i+1)) i y (by rw[Rv oM,dl,TY];rfl) (by rw[<-bn,ah];rfl);rw[show(D++y::Xs.drop (i+1)).set i I=D++[I]++Xs.drop (i+1) by rw[<-dl];exact mG D _ y I,RG]at up;refine ac F9.wf br rfl bg up ?_;rintro hA oA FA nA;have n9:=ab.next;have Fs:Fr S h0 h9:=Qx F ab w0 (fun z m=>.inl m) (fun z m=>.inr (by have:=(aj z m).1;omega));have Fn:Fr (bE::S) h0 hA:=Qx Fs FA w0 (fun z m=>.inl (QO _ m)) (fun z m=>.inl (by simp at m;simp[m]));have nb:b1≠bE:=oM
   have lS:∀{z},z∈bE::S->lo<=z/\z<mid:=fun{z} m=>by grind
   have c9:CEv U.next h9.next h9 I:=by
    rw[ah];refine⟨h6.next,h7.next,oM,oM,m9,?_,?_,bo⟩
    ·exact((bm.fr F9 (fun z m=>.inr (by have:=(aj z m).1;omega))).wk (lo':=U.next) (hi':=h6.next) oM oM)
    ·grind
   have cA:CEv U.next hA.next hA I:=by
    have:=c9.fr F9.wf FA (fun z m=>.inl (by simp at m;omega));rwa[nA]
   have bc:CEs U.next hA mid D:=CEs.fr F9.wf FA (CEs.fr wh ab st fun z m=>.inr (by have:=(aj z m).1;omega)) fun z m=>.inl (by simp at m;omega);simp(disch:=omega) only[evs,fwrap_i64,a0];refine rqn ⟨Xs.length-(i+1),oM,⟨bE::S,fun z m=>lS m,Fn⟩,fun j h1=>?_,oM,i+1,D++[I],iS,iX,iX,iX,oM,by simp[dl],?_,FA.own _ _ (eV nb) a7,?_,CEs.snoc cA bc,rfl⟩
   ·simp[(oM:j≠46)];exact a9 j h1
   ·rw[QS,ey,RL,RL,de];congr 1;show[I.er]=[y.er];rw[ah,Evt.er,Evt.er,bL,R]
   ·have bI:=au aZ (D++[I]++Xs.drop (i+1));exact⟨by rw[bI];simp;omega,.inr ⟨bE,b2,b3,ev,oA⟩⟩
  ·simp only[evs,seval,cpE,ax,aE,eq_false (oM:¬(i:Int)<Xs.length)];rw[Qs oM]at de;rw[QF oM,Rq]at gh;have dn:D.length=Xs.length:=oM
   rw[<-dn]at gh;exact k _ _ D (fun j h1=>by simp[(oM:j≠47)];exact ge j h1) ⟨S,hS,F⟩ de gh st oM
def CpS(lo:Nat)(h:Heap)(c:Cfg)(vE:V)(Xs:List Evt):Prop:=∃k1 k2 k3,lo<=k1/\k1<=k2/\k2<=k3/\k3<=h.next/\Cq 9 lo k1 h c.vK c.Ks.length (c.Ks.flatMap Knd.cells)/\CKs k2 h k1 c.Ks/\Cq 5 k2 k3 h vE Xs.length (Xs.flatMap Evt.cells)/\CEs h.next h k3 Xs
structure ScE(c:Cfg)(Xs:List Evt)(d:Cfg)(Ys:List Evt):Prop where
 v:c.view=d.view
 o:c.over=d.over
 l:c.least=d.least
 p:c.cap=d.cap
 a:c.arena=d.arena
 f:c.flaw=d.flaw
 k:c.Ks.map Knd.er=d.Ks.map Knd.er
 e:Xs.map Evt.er=Ys.map Evt.er
set_option maxHeartbeats 1000000 in
theorem wC(w:WF h)(a:ScrH h c vE Xs):
 ay go 41 [.agg (scC c vE)] h fun u h'=>∃(c':Cfg)(U:V)(a7:List Evt),u=.agg (scC c' U)/\Fr [] h h'/\CpS h.next h' c' U a7/\ScE c' a7 c Xs:=by
 have on:=a.on;have kv:c.vK.one=true:=RI a.ks;have ch:vE.one=true:=RI a.ev;have k3:=a.k3;have nX:=a.n;obtain⟨h1,aj,ak,bf⟩:=av w (scC c vE);obtain⟨h2,ah,ad,a4⟩:=av ak.wf S8;have n1:=hnx aj
 have n2:=hnx ah
 have a6:=ak.then ad;have ob:=ad.get bf;have l3:=ob.l1 3;refine aa ?_;simp only[evs,seval,<-aj,<-ah,l3];refine ae (qr rfl oM oM ad.wf (Sl.a (QI a.ks a6)) rfl oM) ?_;rintro v0 h3 ⟨g0,F3⟩;simp only[evs];refine ae (qv rfl rfl F3.wf g0) ?_;rintro vK _ ⟨gk,rfl⟩;have ce:=gk;obtain⟨_,⟨z,_⟩|⟨bp,ca,bK,rfl,bh⟩⟩:=gk
 ·omega
 obtain⟨c1,ab⟩:∃c1:Cfg,c1=⟨c.view,c.over,c.least,.slice bp 0 c.Ks.length c.Ks.length,c.Ks,c.cap,c.arena,c.flaw⟩:=⟨_,rfl⟩;simp only[evs,seval];refine ac (c':=scC c1 vE) F3.wf (F3.get ob) rfl rfl (by rw[ab];rfl) ?_;rintro h4 o4 F4 n4;have ci:=F3.next;have bo:Fr [] h h4:=(a6.then F3).fresh F4 w (pi _);have bL:ai h4 h.next 3=some (.slice bp 0 c.Ks.length c.Ks.length):=by rw[o4.ld1,ab];rfl
 have a3:Own h4 bp (c.Ks.flatMap Knd.cells):=F4.own _ _ oO bh;have bI:Own h4 h1.next S8:=F4.own _ _ oO (F3.get a4);simp only[evs,seval,bL];refine aw (fun n env R=>Fr [] h R/\(∃S,(∀z∈S,h2.next<=z/\z<h3.next)/\Fr S h4 R)/\h4.next<=R.next/\Own R h.next (scC c1 vE)/\Own R h1.next S8/\
  ∃(i:Nat)(D:List Knd),env.get 20=some (ZZ i)/\env.get 19=some (ZZ c.Ks.length)/\env.get 1=some (.ptr h.next 0)/\env.get 2=some (.ptr h1.next 0)/\i<=c.Ks.length/\D.length=i/\D.map Knd.er=(c.Ks.take i).map Knd.er/\
  Own R bp ((D++c.Ks.drop i).flatMap Knd.cells)/\CKs R.next R h4.next D/\n=c.Ks.length-i) c.Ks.length oM ?_ ?_
 ·exact⟨bo,⟨[],iS,Qw F4.wf⟩,pi _,o4,bI,0,[],iS,iS,iS,iS,oM,rfl,iS,by simpa using a3,pi _,rfl⟩
 ·rintro n env R ⟨F,⟨S,hS,bP⟩,hn,ox,oz,i,D,aA,bg,g1,g2,hi,dl,ds,I,st,rfl⟩;have wh:=F.wf;have lx:∀{h'},Fr [] R h'->ai h' h.next 3=some (.slice bp 0 c.Ks.length c.Ks.length):=fun f=>by rw[(f.get ox).ld1,ab];rfl
  have rr:=Qw (S:=[]) wh;by_cases b6:i<c.Ks.length
  ·have ax:(i:Int)<c.Ks.length:=oM
   obtain⟨q,hq⟩:∃q,c.Ks[i]? =some q:=⟨_,Qq b6⟩;have qm:=Of hq;have bn:=(a.kh q qm).fr F;have eL:D++c.Ks.drop i=D++q::c.Ks.drop (i+1):=by rw[aX hq]
   rw[eL]at I;have ix:=bO 9 bp 0 c.Ks.length c.Ks.length .i64 (i:Int) oM ax;simp only[so,Rc]at ix;have lc:∀{h'},Fr [] R h'->aH h' bp (i*9) 6=some q.part:=fun f=>by
    rw[(f.get I).ld,bA,QV,<-dl,<-au aW D,TF];rfl
   simp only[evs,seval,eff,aA,bg,g1,ax,lx rr,ix,lc rr];refine ae (Aa (eps q.sub) R wh bn) ?_;rintro _ h7 ⟨a1,aR,bu,rfl,sm,J,ck⟩;have aE:az [ZY (q.k:Int),.str q.tg,.str q.ky,a1,.str q.tx,aR]=true:=Uc (((ck.kh J.wf).at J.wf));obtain⟨q',a0⟩:∃q':Knd,q'=⟨q.k,q.tg,q.ky,q.sl,q.tx,a1,aR,bu,q.base,q.sticky,q.pool⟩:=⟨_,rfl⟩;have cq:CKn R.next h7.next h7 q':=by rw[a0];exact ck
   simp only[evs,eff,ix];have up:=aS aW (y:=q') (o:=0) (vs:=[ZY (q.k:Int),.str q.tg,.str q.ky,a1,.str q.tx,aR]) (D++q::c.Ks.drop (i+1)) i q (by rw[Rv oM,dl,TY];rfl) (by rw[a0];rfl);rw[show(D++q::c.Ks.drop (i+1)).set i q'=D++[q']++c.Ks.drop (i+1) by rw[<-dl];exact mG D _ q q',RG]at up;refine ac (c':=(D++[q']++c.Ks.drop (i+1)).flatMap Knd.cells) J.wf (J.get I) rfl aE up ?_;rintro h8 o8 F8 n8;have cc:=J.next;simp(disch:=omega) only[evs,seval,DF,fwrap_i64,aA,lx rr,lx J,lc rr];have bv:Fr (bp::S) h4 h8:=Qx (Qx bP J F4.wf (fun z m=>.inl m) iS:Fr S h4 h7) F8 F4.wf (fun z m=>.inl (QO _ m)) (fun z m=>.inl (by simp at m;simp[m]));refine rqn ⟨c.Ks.length-(i+1),oM,(F.then J).fresh F8 w oM,⟨bp::S,fun z m=>?_,bv⟩,oM,F8.own _ _ oO (J.get ox),F8.own _ _ oO (J.get oz),i+1,D++[q'],iS,iX,iX,iX,oM,by simp[dl],?_,o8,?_,rfl⟩
   ·grind
   ·rw[QS,hq,RL,RL,ds];congr 1;show[q'.er]=[q.er];rw[a0,Knd.er,Knd.er,sm]
   ·have c8:=cq.fr J.wf F8 (fun z m=>.inl (by simp at m;omega));rw[<-n8]at c8;exact CKs.snoc c8 (CKs.fr J.wf F8 (CKs.fr wh J st iS) fun z m=>.inl (by simp at m;omega))
  ·rw[Qs oM]at ds;rw[QF oM,Rq]at I;have dn:D.length=c.Ks.length:=oM
   have l7:=ox.l1 7;have br:=QI a.ev F;simp only[evs,seval,aA,bg,g1,eq_false (oM:¬(i:Int)<c.Ks.length),l7];refine ae (qr rfl oM oM wh (Sl.a br) rfl oM) ?_;rintro v0 h9 ⟨bm,F9⟩;simp only[evs];refine ae (qv rfl rfl F9.wf bm) ?_;rintro U _ ⟨gE,rfl⟩;have n9:=F9.next;have u1:=gE.one;obtain⟨c2,Z⟩:∃c2:Cfg,c2=⟨c.view,c.over,c.least,.slice bp 0 c.Ks.length c.Ks.length,D,c.cap,c.arena,c.flaw⟩:=⟨_,rfl⟩;have ec:∀v,scC c2 v=scC c1 v:=fun v=>by rw[ab,Z];rfl
   simp only[evs,seval,g1];refine ac (c':=scC c2 U) F9.wf (F9.get ox) (by rw[aq u1];rfl) (by rw[aq u1];simp only[af,ag,u1];rfl) (by rw[aq u1,ec,ab];rfl) ?_;rintro hA oA FA nA;have a5:Fr [] h hA:=(F.then F9).fresh FA w (pi _);have bT:ai hA h.next 7=some U:=by rw[oA.ld1,Z];rfl
   have a8:Cq 5 R.next h9.next hA U Xs.length (Xs.flatMap Evt.cells):=gE.fr FA oO;have bN:Own hA h1.next S8:=FA.own _ _ oO (F9.get oz);have bz:Fr [h.next] R hA:=Qx F9 FA wh iS (fun z m=>.inl m);simp only[evs,seval,g1,bT,a8.sl.len];refine Fj (lo:=R.next) (mid:=h9.next) (b1:=h.next) (N:=1000) (hB:=h) w a5 oM oA a8 oM oM a.eh oM iX iS iS iS ?_;rintro ao hB D' a2 ⟨SB,aF,FB⟩ bY gI bw mB;have b7:ao.get 1=some (.ptr h.next 0):=by rw[a2 1 oM];simp[g1]
   have bc:ao.get 2=some (.ptr h1.next 0):=by rw[a2 2 oM];simp[g2]
   have oB:Own hB h.next (scC c2 U):=FB.own _ _ (fun m=>by have:=(aF _ m).1;omega) oA;have bt:Own hB h1.next S8:=FB.own _ _ (fun m=>by have:=(aF _ m).1;omega) bN;have l8:aH hB h.next 0 8=some (scC c2 U):=by rw[oB.ld,Z];rfl
   have aE:az (scC c2 U)=true:=by
    rw[Z];simp only[scC,Cfg.cells,Rb,Ri,af,ag,u1];rfl
   simp only[evs,seval,b7,bc,l8];refine ac (c':=scC c2 U) FB.wf bt rfl aE (by rw[Z];rfl) ?_;rintro hC oC FC nC;have bi:aH hC h1.next 0 8=some (scC c2 U):=by rw[oC.ld,Z];rfl
   simp only[evs,bc,bi];have bB:Fr [] h hB:=Ru w a5 FB (fun z m=>by have:=(aF z m).1;have:=F.next;omega);have a9:Fr (h.next::h1.next::SB) R hC:=Qx (Qx bz FB wh (fun z m=>.inl (by simp at m;simp[m])) (fun z m=>.inl iX):Fr (h.next::h1.next::SB) R hB) FC wh (fun z m=>.inl m) (fun z m=>.inl (by simp at m;simp[m]));have nB:=FB.next;have Zh:∀z∈h.next::h1.next::SB,z<h2.next\/R.next<=z:=fun z m=>by grind
   have bE:Own hC bp (D.flatMap Knd.cells):=a9.own _ _ (fun m=>by have:=Zh _ m;have:=I.lt wh;omega) I;refine⟨c2,U,D',rfl,bB.fresh FC w oM,⟨h3.next,R.next,h9.next,oM,oM,oM,oM,?_,?_,?_,?_⟩,by rw[Z],by rw[Z],by rw[Z],by rw[Z],by rw[Z],by rw[Z],by rw[Z];exact ds,bY⟩
   ·rw[Z];show Cq 9 h.next h3.next hC (.slice bp 0 c.Ks.length c.Ks.length) D.length _;rw[<-dn];exact⟨au aW D,.inr ⟨bp,oM,bK,rfl,bE⟩⟩
   ·rw[Z];have:=CKs.fr wh a9 st (fun z m=>(Zh z m).imp (fun q=>by omega) id);rw[n4]at this;exact this
   ·exact gI.fr FC (fun z m=>.inl (by simp at m;omega))
   ·have:=CEs.fr FB.wf FC bw (fun z m=>.inl (by simp at m;omega));rwa[nC]
open Go.Ev.St
section
variable {h h0 : Heap} {lo hi : Nat}
theorem CKs.kh(w:WF h):∀{L:List Knd}{lo:Nat},CKs hi h lo L->∀q∈L,KndH h q
 |[],_,_,_,m=>by simp at m
 |_::_,_,⟨_,_,a,b⟩,q,m=>by
  rcases Qy.1 m with rfl|m
  ·exact(a.kh w).at w
  ·exact CKs.kh w b q m
theorem er_len{f:α->β}{L M:List α}(e:L.map f=M.map f):L.length=M.length:=by
 have:=congrArg List.length e;simpa using this
theorem ye{α β:Type}{f:α→β}:∀{L M:List α},L.map f=M.map f→∀x∈L,∃y∈M,f x=f y
 |[],_,_,x,m=>by simp at m
 |a::L,[],e,_,_=>by simp at e
 |a::L,b::M,e,x,m=>by
  simp only[List.map_cons,List.cons.injEq]at e;rcases List.mem_cons.1 m with rfl|m
  ·grind
  ·obtain⟨y,my,ey⟩:=ye e.2 x m;exact⟨y,List.mem_cons_of_mem _ my,ey⟩
theorem CNt.nt{x y:Nt}(w:WF h)(a:CNt lo hi h x)(e:x.er=y.er)(b:NtH h0 y):NtH h x:=by
 obtain⟨m,_,_,c,s⟩:=a;simp only[Nt.er,Nt.mk.injEq,Ntc.mk.injEq,and_true]at e;obtain⟨Z,I,R,J,U⟩:=e;have l:=er_len U;exact⟨by rw[Z];exact b.k,by rw[I];exact b.a,by rw[R];exact b.c,by rw[J];exact b.t,c.sl,s.at w,by rw[l];exact b.n,c.nE⟩
theorem CNz.nt(w:WF h):∀{L M:List Nt}{lo:Nat},CNz hi h lo L->L.map Nt.er=M.map Nt.er->(∀y∈M,NtH h0 y)->∀x∈L,NtH h x
 |[],_,_,_,_,_,_,m=>by simp at m
 |_::_,[],_,_,e,_,_,_=>by simp at e
 |_::_,_::_,_,⟨_,_,a,b⟩,e,hM,x,m=>by
  simp only[QU,QC]at e;rcases Qy.1 m with rfl|m
  ·exact a.nt w e.1 (hM _ iS)
  ·exact CNz.nt w b e.2 (fun y my=>hM y (QO _ my)) x m
theorem CEv.ev(w:WF h)(a:CEv lo hi h x)(e:x.er=y.er)(b:EvtH h0 y N):EvtH h x N:=by
 obtain⟨m1,m2,_,_,_,c,d,s⟩:=a;simp only[Evt.er,Evt.mk.injEq,true_and]at e;obtain⟨I,e2,e3,U,Z⟩:=e;have l:=er_len U;refine⟨by rw[I];exact b.k,by rw[e2];exact b.to,by rw[e3];exact b.key,d.sl,CNz.nt w s U b.hx,by rw[l];exact b.n,fun z mz=>?_,⟨by rw[Z]at c|-;exact c.sl,by rw[Z];exact b.t.n,by rw[Z];exact b.t.z,by rw[Z];exact b.t.k⟩⟩;obtain⟨z',R,ez⟩:=ye U z mz;simp only[Nt.er,Nt.mk.injEq,Ntc.mk.injEq,and_true]at ez;obtain⟨D,_,_,_,J⟩:=ez;rw[er_len J,D];exact b.hY z' R
theorem CEs.ev(w:WF h):∀{L M:List Evt}{lo:Nat},CEs hi h lo L->L.map Evt.er=M.map Evt.er->(∀y∈M,EvtH h0 y N)->∀x∈L,EvtH h x N
 |[],_,_,_,_,_,_,m=>by simp at m
 |_::_,[],_,_,e,_,_,_=>by simp at e
 |_::_,_::_,_,⟨_,_,a,b⟩,e,hM,x,m=>by
  simp only[QU,QC]at e;rcases Qy.1 m with rfl|m
  ·exact a.ev w e.1 (hM _ iS)
  ·exact CEs.ev w b e.2 (fun y my=>hM y (QO _ my)) x m
theorem CpS.scr{c':Cfg}{U:V}{Z:List Evt}(w:WF h)(a:CpS lo h c' U Z)(e:ScE c' Z c Xs)(b:ScrH h0 c vE Xs):ScrH h c' U Z:=by
 obtain⟨k1,k2,k3,_,_,_,_,D,ck,ge,R⟩:=a;have I:=er_len e.k;have J:=er_len e.e;refine⟨D.sl,ck.kh w,by rw[I];exact b.k3,ge.sl,CEs.ev w R e.e b.eh,fun x m=>?_,by rw[J];exact b.n⟩;obtain⟨y,my,ey⟩:=ye e.e x m;exact DW ey (b.eo y my)
theorem ScrH.upto(a:ScrH h c vE Xs)(Z:n<=Xs.length)(s:Sl h 5 v n ((Xs.flatMap Evt.cells).take (n*5))):ScrH h c v (Xs.take n):=by
 refine⟨a.ks,a.kh,a.k3,?_,fun x m=>a.eh x (QP m),fun x m=>a.eo x (QP m),by rw[QN];have:=a.n;omega⟩;show Sl h 5 v (Xs.take n).length ((Xs.take n).flatMap Evt.cells);rw[QN,Rt Z];have:(Xs.take n).flatMap Evt.cells=(Xs.flatMap Evt.cells).take (n*5):=by
  conv=>rhs;rw[<-RH n Xs,QV]
  have l:((Xs.take n).flatMap Evt.cells).length=n*5:=by rw[au aZ,QN,Rt Z]
  rw[<-l,Ud]
 rw[this];exact s
theorem IJ{n:Int}(w:WF h)(TT:Tq h)(a:ScrH h c vE Xs)(cf:cfB c=true)(hE:vE≠.sliceE):
 ay go 12 [.agg (scC c vE),ZZ n] h fun u h'=>Fr [] h h'/\((n<0\/(Xs.length:Int)<n)/\u=.tup [.agg S8,ZZ 4]\/
  (0<=n/\n<=(Xs.length:Int))/\∃(c':Cfg)(U:V)(R:List Evt),u=.tup [.agg (scC c' U),ZZ 0]/\CpS h.next h' c' U R/\ScE c' R c (Xs.take n.toNat)):=by
 have on:=a.on;have nX:=a.n;obtain⟨h1,D,ad,ax⟩:=av w (scC c vE);obtain⟨h2,ab,ah,ao⟩:=av ad.wf S8;have n1:=hnx D
 have n2:=hnx ab
 have I:=ad.then ah;have o1:=ah.get ax;have l8:=o1.la 8
 refine aa ?_;simp only[evs,seval,<-D,<-ab,l8];refine aN (kU I.wf (I.pl 2 bS iS TT) (a.fr I) cf) fun h3 F3=>?_;have F03:=I.then F3;have a3:=a.fr F03;have aj:=F3.get o1;have o23:=F3.get ao;have l7:=aj.l1 7;have a8:=aj.la 8
 have a6:=o23.la 8
 by_cases c0:n<0
 ·simp only[evs,seval,eq_true c0];exact yn
 by_cases c1:(Xs.length:Int)<n
 ·simp only[evs,seval,eq_false c0,l7,a3.ev.len,eq_true c1];exact yn
 obtain⟨v',ev,sv⟩:=Ub a3.ev oM hE .i64 n oM oM;have v1:=sv.one;simp only[evs,seval,eq_false c0,l7,a3.ev.len,eq_false c1,ev];refine ac F3.wf aj (by rw[aq v1];rfl) (by rw[aq v1];simp only[af,ag,v1];rfl) (by rw[aq v1];rfl) ?_;rintro h4 o4 F4 n4;have J:=F03.fresh F4 w (pi _);have a1:=o4.la 8
 have a5:=F3.next;have aE:Sl h4 5 v' n.toNat ((Xs.flatMap Evt.cells).take (n.toNat*5)):=by
  obtain⟨v2,ak,a2⟩:=Ub (a.fr J).ev oM hE .i64 n oM oM;rw[ev]at ak;cases ak;exact a2
 have a4:=(a.fr J).upto oM aE;simp only[evs,seval,a1];refine ae (wC F4.wf a4) ?_;rintro _ h5 ⟨c',U,R,rfl,F5,cp,ce⟩;have aR:=F5.get (F4.own _ _ oO o23);have aF:az (scC c' U)=true:=by
  have:=(cp.scr F5.wf ce a4).on;exact this
 simp only[evs,seval];refine ac F5.wf aR rfl aF rfl ?_;rintro h6 o6 F6 n6;have aA:=o6.la 8
 simp only[evs,seval,aA];have a7:=J.next;have a9:=F5.next;refine⟨(J.then F5).fresh F6 w oM,.inr ⟨⟨oM,oM⟩,c',U,R,rfl,?_,ce⟩⟩;obtain⟨k1,k2,k3,q1,q2,q3,q4,gk,ck,ge,a0⟩:=cp;have Z:∀z∈[h1.next],z<h4.next:=fun z m=>by simp at m;omega
 exact⟨k1,k2,k3,oM,q2,q3,oM,(gk.fr F6 (fun z m=>.inl (Z z m))).wk oM (pi _),CKs.fr F5.wf F6 ck (fun z m=>.inl (by have:=Z z m;omega)),ge.fr F6 (fun z m=>.inl (by have:=Z z m;omega)),by rw[n6];exact CEs.fr F5.wf F6 a0 (fun z m=>.inl (by have:=Z z m;omega))⟩
end
open Go.Ev.St
theorem Sl.upto3{h:Heap}{e n i:Nat}{v:V}{cs:List V}(a:Sl h e v n cs)(he:0<e)(hE:v≠.sliceE)(hi:i<n):
 ∃b o,aP (.sl none e false true true) [v,.int .i64 (i:Int),.int .i64 (i:Int)]=some (.slice b o i i)∧∀{h'},Sl h' e v n cs→Sl h' e (.slice b o i i) i (cs.take (i*e)):=by
 have im:i*e≤n*e:=Nat.mul_le_mul_right _ oM;have q:∀y m,n≤m→m≤y→aO m y false true true [.int .i64 (i:Int),.int .i64 (i:Int)]=some (0,i,some i):=fun y m hm hy=>by
  simp only[aO,aY .i64 (i:Int) y oM oM,aY .i64 (i:Int) i oM oM,Option.bind_some,Option.map_some,Int.toNat_natCast]
 cases v with
 |slice b o l k=>
  obtain⟨rfl,hk,_⟩:=a.2;refine⟨b,o,?_,?_⟩
  ·simp only[aP,dW,q k l (Nat.le_refl _) hk,Option.map_some,Option.getD_some,Nat.sub_zero,Nat.zero_mul,Nat.add_zero];cases Nat.beq i 0<;>rfl
  ·rintro h' ⟨q1,q2,q3,c,q4,q5,q6⟩;exact⟨by rw[List.length_take,q1];omega,rfl,Nat.le_refl _,c,q4,oM,by rw[q6,List.take_take,Nat.min_eq_left im]⟩
 |sliceU b o l k=>
  obtain⟨rfl,rfl,_⟩:=a.2;refine⟨b,o,?_,?_⟩
  ·simp only[aP,dW,iw (rfl:k=k),(Nat.blt_eq ..).mpr he,Bool.and_self,cond_true,q l l (Nat.le_refl _) (Nat.le_refl _),Option.bind_some,Nat.sub_zero,Nat.zero_mul,Nat.add_zero];cases Nat.beq i 0<;>rfl
  ·rintro h' ⟨q1,q2,q3,c,q4,q5,q6⟩;exact⟨by rw[List.length_take,q1];omega,rfl,Nat.le_refl _,c,q4,oM,by rw[q6,List.take_take,Nat.min_eq_left im]⟩
 |nils=>have:=a.2;omega
 |sliceE=>exact absurd rfl hE
 |_=>exact a.2.elim
theorem NF{e bytes m b o:Nat}{x:V}{cs Z:List V}(w:WF h)(d:Sl h e (.slice b o n n) n cs)(s:Sl h e x m Z)(U:(2*(n+m)+1024) *bytes<=281474976710656){K:V->Heap->Prop}
 (k:∀v' h',(∀{R:Heap}{S:List Nat},Fr S h' R->(∀z∈S,z<h.next)->Sl R e (.slice b o n n) n cs->Sl R e v' (n+m) (cs++Z))->Fr [] h h'->v'.one=true->K v' h'):OQ (dK h e bytes (.slice b o n n) x) K:=by
 unfold dK;rw[s.srcLen];simp only[];by_cases hm:m=0
 ·subst hm;have:Z=[]:=Rx.1 (by have:=s.1;omega);subst this;rw[iw rfl,cond_true];exact(cD _ _ _).2 (k _ _ (fun _ _ q=>by simpa using q) (Qw w) rfl)
 ·rw[dJ hm,cond_false,s.srcCells];simp only[];have ld:aH h b o (n*e)=some cs:=by
   obtain⟨h1,_,_,c,I,D,J⟩:=d;rw[I.ld,bA,aU _ _ oO,J]
  rw[jG oM,cond_false,ld];simp only[kF];rw[(RW ..).mpr U,cond_true];have l1:=d.1;have l2:=s.1;have le:(n+m) *e=n*e+m*e:=Sw _ _ _;have lc:(cs++Z).length=(n+m) *e:=by grind
  exact(cD _ _ _).2 (k _ _ (fun f hS _=>⟨lc,rfl,rfl,cs++Z,f.own _ _ (fun m=>by have:=hS _ m;omega) (Ro w _),oM,by rw[TA,Qs oM]⟩) (QW w _) rfl)
section
variable {h : Heap}
theorem zS(Xs:List Evt)(i:Nat)(hi:i<Xs.length):(Xs.take i++Xs.drop (i+1)).flatMap Evt.cells=(Xs.flatMap Evt.cells).take (i*5)++(Xs.flatMap Evt.cells).drop ((i+1) *5):=by
 rw[List.flatMap_append,dE aZ];congr 1;conv=>rhs;rw[←List.take_append_drop i Xs,List.flatMap_append]
 have l:((Xs.take i).flatMap Evt.cells).length=i*5:=by rw[au aZ,List.length_take,Nat.min_eq_left oM]
 rw[←l,List.take_left]
theorem ScrH.less(a:ScrH h c vE Xs)(Z:i<Xs.length)(s:Sl h 5 v (i+(Xs.length-(i+1))) ((Xs.flatMap Evt.cells).take (i*5)++(Xs.flatMap Evt.cells).drop ((i+1) *5))):ScrH h c v (Xs.take i++Xs.drop (i+1)):=by
 have mem:∀x∈Xs.take i++Xs.drop (i+1),x∈Xs:=fun x m=>(Qp.1 m).elim QP Sf;have l:(Xs.take i++Xs.drop (i+1)).length=i+(Xs.length-(i+1)):=by grind
 refine⟨a.ks,a.kh,a.k3,?_,fun x m=>a.eh x (mem x m),fun x m=>a.eo x (mem x m),by rw[l];have:=a.n;omega⟩;show Sl h 5 v _ _;rw[l,zS Xs i Z];exact s
theorem wV{n:Int}(w:WF h)(TT:Tq h)(a:ScrH h c vE Xs)(cf:cfB c=true)(hE:vE≠.sliceE):
 ay go 13 [.agg (scC c vE),ZZ n] h fun u h'=>Fr [] h h'/\((n<0\/(Xs.length:Int)<=n)/\u=.tup [.agg S8,ZZ 4]\/
  (0<=n/\n<(Xs.length:Int))/\∃(c':Cfg)(U:V)(R:List Evt),u=.tup [.agg (scC c' U),ZZ 0]/\CpS h.next h' c' U R/\ScE c' R c (Xs.take n.toNat++Xs.drop (n.toNat+1))):=by
 have on:=a.on;have nX:=a.n;obtain⟨h1,D,ad,ao⟩:=av w (scC c vE);obtain⟨h2,ab,ah,aj⟩:=av ad.wf S8;have n1:=hnx D
 have n2:=hnx ab
 have J:=ad.then ah;have o1:=ah.get ao;have l8:=o1.la 8
 refine aa ?_;simp only[evs,seval,<-D,<-ab,l8];refine aN (kU J.wf (J.pl 2 bS iS TT) (a.fr J) cf) fun h3 F3=>?_;have F03:=J.then F3;have a3:=a.fr F03;have ax:=F3.get o1;have o23:=F3.get aj;have l7{h'}(f:Fr [] h3 h'):=(f.get ax).l1 7;have r3:=Qw (S:=[]) F3.wf;by_cases c0:n<0
 ·simp only[evs,seval,eq_true c0];exact yn
 by_cases c1:(Xs.length:Int)<=n
 ·simp only[evs,seval,eq_false c0,l7 r3,a3.ev.len,eq_true c1];exact yn
 obtain⟨i,rfl⟩:∃i:Nat,n=i:=⟨n.toNat,oM⟩;have hi:i<Xs.length:=oM
 obtain⟨vb',bf,a6,ak⟩:=Sl.upto3 a3.ev oM hE hi;obtain⟨v2,aE,aA⟩:=Sl.from' a3.ev oM hE .i64 ((i:Int)+1) oM oM;have t1:((i:Int)+1).toNat=i+1:=oM
 rw[t1]at aA;simp(disch:=omega) only[evs,seval,eff,fwrap_i64,eq_false c0,l7 r3,a3.ev.len,eq_false c1,a6,aE];refine NF F3.wf (ak a3.ev) aA oM ?_;rintro v' h4 sv F4 v1;have a1:=F4.get ax;simp only[evs,seval,eff];refine ac (c':=scC c v') F4.wf a1 (by rw[aq v1];rfl) (by rw[aq v1];simp only[af,ag,v1];rfl) (by rw[aq v1];rfl) ?_;rintro h5 o5 F5 n5;have a9:=F3.next;have bc:=F4.next;have a0:=Qx F4 F5 F3.wf iS (fun z m=>.inl m);have I:=F03.fresh a0 w (pi _);have a7:=o5.la 8
 have a8:=sv F5 (fun z m=>by simp at m;omega) (ak (a.fr I).ev);have a5:=(a.fr I).less hi a8;simp only[evs,seval,DF,l7 r3,a7];refine ae (wC F5.wf a5) ?_;rintro _ h6 ⟨c',U,R,rfl,F6,cp,ce⟩;have aR:=F6.get (F5.own _ _ oO (F4.get o23));have aF:=(cp.scr F6.wf ce a5).on;simp only[evs,seval];refine ac (c':=scC c' U) F6.wf aR rfl aF rfl ?_;rintro h7 o7 F7 n7;have a4:=o7.la 8
 simp only[evs,seval,a4];have bg:=I.next;have bh:=F6.next;refine⟨(I.then F6).fresh F7 w oM,.inr ⟨⟨oM,oM⟩,c',U,R,rfl,?_,ce⟩⟩;obtain⟨k1,k2,k3,q1,q2,q3,q4,gk,ck,ge,a2⟩:=cp;have Z:∀z∈[h1.next],z<h5.next:=fun z m=>by simp at m;omega
 exact⟨k1,k2,k3,oM,q2,q3,oM,(gk.fr F7 (fun z m=>.inl (Z z m))).wk oM (pi _),CKs.fr F6.wf F7 ck (fun z m=>.inl (by have:=Z z m;omega)),ge.fr F7 (fun z m=>.inl (by have:=Z z m;omega)),by rw[n7];exact CEs.fr F6.wf F7 a2 (fun z m=>.inl (by have:=Z z m;omega))⟩
end
open Go.Ev.St
theorem Ic(a b:Int):ieq a b=decide (a=b):=by
 rw[fK];by_cases c:a=b<;>simp[c]
theorem Ek{s t:Str}(h:¬s=t):(s==t)=false:=beq_eq_false_iff_ne.2 h
theorem K4(s t:Slo):aP (.seq true [2,0,2]) [.agg (fE s),.agg (fE t)]=some (.bool (!decide (s=t))):=by
 obtain⟨U,Z,s3⟩:=s;obtain⟨t1,t2,t3⟩:=t;have e:iU [2,0,2] (fE (U,Z,s3)) (fE (t1,t2,t3))=some (decide ((U,Z,s3)=(t1,t2,t3))):=by
  show(bif U==t1 then(bif jA .u8 .u8 then(bif ieq (Z:Int) (t2:Int)then(bif s3==t3 then some true else some false)else some false)else none)else some false)=_;have k:jA .u8 .u8=true:=rfl;rw[k,Ic];by_cases c1:U=t1
  ·subst c1;by_cases c2:Z=t2
   ·subst c2;by_cases c3:s3=t3
    ·subst c3;simp
    ·rw[Ek c3];simp[c3]
   ·have:¬(Z:Int)=(t2:Int):=oM
    simp[c2,this]
  ·rw[Ek c1];simp[c1]
 simp only[aP,e,QG,cond_true]
theorem Ny(s t:Nat×Int):aP (.seq true [0,0]) [.agg (htC s),.agg (htC t)]=some (.bool (!decide (s=t))):=by
 obtain⟨Z,U⟩:=s;obtain⟨t1,t2⟩:=t;have e:iU [0,0] (htC (Z,U)) (htC (t1,t2))=some (decide ((Z,U)=(t1,t2))):=by
  show(bif jA .u64 .u64 then(bif ieq (Z:Int) (t1:Int)then(bif jA .i64 .i64 then(bif ieq U t2 then some true else some false)else none)else some false)else none)=_;have J:jA .u64 .u64=true:=rfl;have R:jA .i64 .i64=true:=rfl;rw[J,R,Ic,Ic];by_cases c1:Z=t1
  ·subst c1;by_cases c2:U=t2
   ·subst c2;simp
   ·simp[c2]
  ·have:¬(Z:Int)=(t1:Int):=oM
   simp[c1,this]
 simp only[aP,e,QG,cond_true]
theorem rE{f:α->β}{L M:List α}{x y:α}(e:(L.take i).map f=(M.take i).map f)(hx:L[i]? =some x)(Z:M[i]? =some y)(h:f x=f y):(L.take (i+1)).map f=(M.take (i+1)).map f:=by
 rw[QS,QS,hx,Z,RL,RL,e];simp[h]
theorem zy{f:α->β}{L M:List α}{x y:α}(hx:L[i]? =some x)(hy:M[i]? =some y)(h:f x≠f y):L.map f≠M.map f:=fun e=>by
 have:=congrArg (·[i]?) e;simp only[SK,hx,hy,QG,QA]at this;exact h this
section
variable {h : Heap}
theorem IB{va vb:V}{L M:List Str}(a:ARecs sS 1 h va L)(b:ARecs sS 1 h vb M)(nL:L.length<=100000)(nM:M.length<=100000):ay go 213 [va,vb] h fun u h'=>h=h'/\∃r:Bool,u=.bool r/\(r=true↔L=M):=by
 by_cases cl:L.length=M.length
 ·refine aa ?_;simp only[evs,seval,a.len,b.len,eq_true (oM:(L.length:Int)=(M.length:Int))];refine aw (fun n env D=>h=D/\∃i:Nat,env.get 13=some (ZZ i)/\env.get 12=some (ZZ L.length)/\env.get 0=some va/\env.get 1=some vb/\i<=L.length/\(L.take i).map id=(M.take i).map id/\n=L.length-i) L.length oM ?_ ?_
  ·exact⟨rfl,0,iS,iS,iS,iS,oM,iS,rfl⟩
  ·rintro n env D ⟨rfl,i,g13,g12,g0,g1,hi,e,rfl⟩;by_cases c:i<L.length
   ·obtain⟨b1,o1,Z,p1,p2,p3,p4⟩:=a.ix cC .i64 (i:Int) oM oM;obtain⟨b2,o2,U,J,q2,q3,q4⟩:=b.ix cC .i64 (i:Int) oM oM;rw[so]at p4 q4;have R:ai h b1 o1=some (.str Z):=p2 0 oM;have I:ai h b2 o2=some (.str U):=q2 0 oM;by_cases cs:Z=U
    ·simp(disch:=omega) only[evs,seval,DF,eff,fwrap_i64,g13,g12,g0,g1,(oM:(i:Int)<L.length),p1,J,R,I,ba,show(Z==U)=true by simpa using cs];exact ybf
    ·simp only[evs,seval,DF,eff,g13,g12,g0,g1,(oM:(i:Int)<L.length),p1,J,R,I,ba,show(Z==U)=false by simpa using cs];exact⟨false,rfl,by simpa using zy (f:=id) p4 q4 cs⟩
   ·exact yap
 ·refine aa ?_;simp only[evs,seval,a.len,b.len,eq_false (oM:¬(L.length:Int)=(M.length:Int))];exact⟨false,rfl,by simp;rintro rfl;exact cl rfl⟩
def eqL(c:Nat)(q:List Nat):IFn:=⟨2,.seq (.ops [⟨none,.p .mv [.c (.bool false)],some 4⟩]) (.seq (.seq (.ops [zp .lenS [.v 0],zp .lenS [.v 1],⟨none,.p (.ib .neq) [.l 1,.l 0],some 10⟩]) (.cond (.v 10) (.seq (.ops [⟨none,.p .mv [.c (.bool false)],some 4⟩]) .ret) .skip)) (.seq (.seq (.ops [⟨none,.p .lenS [.v 0],some 12⟩,⟨none,.p .mv [.c (ZZ 0)],some 13⟩]) (.block 0 (.loop (.seq (.ops [⟨none,.p (.ib .lss) [.v 13,.v 12],some 14⟩]) (.seq (.cond (.v 14) .skip (.exit 0)) (.seq (.block 1 (.seq (.ops [⟨none,.p .mv [.v 13],some 5⟩]) (.seq (.dops [zm 0,zm 5,zp (.ixs c) [.l 1,.l 0],zn (.ld c true (.l 0)),zm 1,zm 5,zp (.ixs c) [.l 1,.l 0],zn (.ld c true (.l 0)),zp (.seq true q) [.l 4,.l 0]] [] [] [(3,0,0),(7,0,0)] [(24,8)]) (.cond (.v 24) (.seq (.ops [⟨none,.p .mv [.c (.bool false)],some 4⟩]) .ret) .skip)))) (.ops [zp (.ib .add) [.v 13,.c (ZZ 1)],⟨none,.p .mv [.l 0],some 13⟩]))))))) (.seq (.ops [⟨none,.p .mv [.c (.bool true)],some 4⟩]) .ret))),[.t 4]⟩
theorem IA[DecidableEq α]{cs:α->List V}{f c:Nat}{q:List Nat}(hf:F.get f=some (eqL c q))(U:∀x,(cs x).length=c)(Z:∀s t,aP (.seq true q) [.agg (cs s),.agg (cs t)]=some (.bool (!decide (s=t)))){va vb:V}{L M:List α}(a:ARecs cs c h va L)(b:ARecs cs c h vb M)(nL:L.length<=100000)(nM:M.length<=100000):ay go f [va,vb] h fun u h'=>h=h'/\∃r:Bool,u=.bool r/\(r=true↔L=M):=by
 by_cases D:L.length=M.length
 ·refine aa (hf:=hf) ?_;simp only[evs,seval,a.len,b.len,eq_true (oM:(L.length:Int)=(M.length:Int))];refine aw (fun n env J=>h=J/\∃i:Nat,env.get 13=some (ZZ i)/\env.get 12=some (ZZ L.length)/\env.get 0=some va/\env.get 1=some vb/\i<=L.length/\(L.take i).map id=(M.take i).map id/\n=L.length-i) L.length oM ?_ ?_
  ·exact⟨rfl,0,iS,iS,iS,iS,oM,iS,rfl⟩
  ·rintro n env J ⟨rfl,i,g13,g12,g0,g1,hi,e,rfl⟩;by_cases ci:i<L.length
   ·obtain⟨b1,o1,s1,p1,p2,p3,p4⟩:=a.ix U .i64 (i:Int) oM oM;obtain⟨b2,o2,s2,R,q2,I,q4⟩:=b.ix U .i64 (i:Int) oM oM;rw[so]at p4 q4
    by_cases cs:s1=s2
    ·simp(disch:=omega) only[evs,seval,DF,eff,fwrap_i64,g13,g12,g0,g1,(oM:(i:Int)<L.length),p1,R,p3,I,Z,decide_eq_true cs];exact ybf
    ·simp only[evs,seval,DF,eff,g13,g12,g0,g1,(oM:(i:Int)<L.length),p1,R,p3,I,Z,decide_eq_false cs];exact⟨false,rfl,by simpa using zy (f:=id) p4 q4 cs⟩
   ·exact yap
 ·refine aa (hf:=hf) ?_;simp only[evs,seval,a.len,b.len,eq_false (oM:¬(L.length:Int)=(M.length:Int))];exact⟨false,rfl,by simp;rintro rfl;exact D rfl⟩
end
open Go.Ev.St
section
variable {h : Heap}
theorem AU{x y:Itm}(w:WF h)(a:ItmH h x)(b:ItmH h y):ay go 148 [.agg x.cells,.agg y.cells] h fun u h'=>Fr [] h h'/\∃r:Bool,u=.bool r/\(r=true↔x.er=y.er):=by
 have xo:az x.cells=true:=a.one;have yo:az y.cells=true:=b.one;obtain⟨h1,Z,I,ab⟩:=av w x.cells;obtain⟨h2,U,D,R⟩:=av I.wf y.cells;have J:=I.then D;have o1:=D.get ab;have x0:=o1.l1 0;have y0:=R.l1 0;have x1:=o1.l1 1;have y1:=R.l1 1;have x2:=o1.l1 2;have y2:=R.l1 2;by_cases c0:x.key=y.key
 rotate_left
 ·refine aa ?_;simp only[evs,seval,<-Z,<-U,x0,y0,eq_false (oM:¬(x.key:Int)=(y.key:Int))];exact⟨J,false,rfl,by simp;exact fun e=>c0 (congrArg (fun z=>z.key) e)⟩
 by_cases c1:x.type=y.type
 rotate_left
 ·refine aa ?_;simp only[evs,seval,<-Z,<-U,x0,y0,eq_true (oM:(x.key:Int)=(y.key:Int)),x1,y1,eq_false (oM:¬(x.type:Int)=(y.type:Int))];exact⟨J,false,rfl,by simp;exact fun e=>c1 (congrArg (fun z=>z.type) e)⟩
 by_cases c2:x.text=y.text
 rotate_left
 ·refine aa ?_;simp only[evs,seval,<-Z,<-U,x0,y0,eq_true (oM:(x.key:Int)=(y.key:Int)),x1,y1,eq_true (oM:(x.type:Int)=(y.type:Int)),x2,y2,aQ,Ek c2];exact⟨J,false,rfl,by simp;exact fun e=>c2 (congrArg (fun z=>z.text) e)⟩
 have x3:=o1.l1 3;have y3:=R.l1 3;refine aa ?_;simp only[evs,seval,<-Z,<-U,x0,y0,eq_true (oM:(x.key:Int)=(y.key:Int)),x1,y1,eq_true (oM:(x.type:Int)=(y.type:Int)),x2,y2,aQ,show(x.text==y.text)=true by simpa using c2,x3,y3];refine ae (IB (a.m.fr J) (b.m.fr J) (by have:=a.n;omega) (by have:=b.n;omega)) ?_;rintro _ _ ⟨rfl,r,rfl,er⟩;simp only[evs,seval];refine⟨J,r,rfl,er.trans ?_⟩;simp only[Itm.er,Itm.mk.injEq,c0,c1,c2,true_and,and_true]
def eqF(c:Nat)(z:List V):IFn:=⟨3,.seq (.ops [⟨none,.p .mv [.c (.bool false)],some 6⟩]) (.seq (.seq (.ops [zp .lenS [.v 0],zp .lenS [.v 1],⟨none,.p (.ib .neq) [.l 1,.l 0],some 14⟩]) (.cond (.v 14) (.seq (.ops [⟨none,.p .mv [.c (.bool false)],some 6⟩]) .ret) .skip)) (.seq (.seq (.ops [⟨none,.p .mv [.v 0],some 15⟩,⟨none,.p .lenS [.v 15],some 16⟩,⟨none,.p .mv [.c (ZZ 0)],some 17⟩]) (.block 0 (.loop (.seq (.ops [⟨none,.p (.ib .lss) [.v 17,.v 16],some 18⟩]) (.seq (.cond (.v 18) .skip (.exit 0)) (.seq (.block 1 (.seq (.ops [zp (.ixs c) [.v 15,.v 17],zn (.ld c true (.l 0)),⟨none,.al z,some 8⟩,⟨none,.p .mv [.v 17],some 7⟩,zn (.st c (.v 8) (.l 0))]) (.seq (.ops [zp (.ixs c) [.v 1,.v 7],zn (.ld c true (.l 0)),⟨none,.al z,some 9⟩,zn (.st c (.v 9) (.l 0))]) (.seq (.ops [zn (.ld c true (.v 8)),zn (.ld c true (.v 9)),zn (.cv (.v 2) [.l 1,.l 0]),⟨none,.p .not [.l 0],some 30⟩]) (.cond (.v 30) (.seq (.ops [⟨none,.p .mv [.c (.bool false)],some 6⟩]) .ret) .skip))))) (.ops [zp (.ib .add) [.v 17,.c (ZZ 1)],⟨none,.p .mv [.l 0],some 17⟩]))))))) (.seq (.ops [⟨none,.p .mv [.c (.bool true)],some 6⟩]) .ret))),[.t 6]⟩
theorem yf{cs:α->List V}{D:α->β}{P:Heap->α->Prop}{f g c:Nat}{z:List V}(hf:F.get f=some (eqF c z))(cl:∀x,(cs x).length=c)(uz:∀x,bF z 0 (cs x)=some (cs x))(on:∀{h x},P h x->az (cs x)=true)(fr:∀{h h' x},P h x->Fr [] h h'->P h' x)(hg:g<1099511627776)
 (sm:∀{h x y},WF h->P h x->P h y->ay go g [.agg (cs x),.agg (cs y)] h fun u h'=>Fr [] h h'/\∃r:Bool,u=.bool r/\(r=true↔D x=D y)) {va vb:V}{L M:List α}(w:WF h)(a:Recs cs c h va L)(b:Recs cs c h vb M)(hL:∀x∈L,P h x)(hM:∀x∈M,P h x)(nL:L.length<=100000)(nM:M.length<=100000):
 ay go f [va,vb,.func (.func g) [] []] h fun u h'=>Fr [] h h'/\∃r:Bool,u=.bool r/\(r=true↔L.map D=M.map D):=by
 by_cases ce:L.length=M.length
 ·refine aa (hf:=hf) ?_;simp only[evs,seval,a.len,b.len,eq_true (oM:(L.length:Int)=(M.length:Int))];refine aw (fun n env hh=>Fr [] h hh/\∃i:Nat,env.get 17=some (ZZ i)/\env.get 16=some (ZZ L.length)/\env.get 15=some va/\env.get 1=some vb/\env.get 2=some (.func (.func g) [] [])/\i<=L.length/\(L.take i).map D=(M.take i).map D/\n=L.length-i) L.length oM ?_ ?_
  ·exact⟨Qw w,0,iS,iS,iS,iS,iS,oM,iS,rfl⟩
  ·rintro n env hh ⟨F,i,I,ao,ax,g1,g2,hi,e,rfl⟩;have wh:=F.wf;by_cases ci:i<L.length
   ·obtain⟨b1,o1,x,p1,p2,p3,p4⟩:=(QI a F).ix cl .i64 (i:Int) oM oM;rw[so]at p4;have xh:=fr (hL x (Of p4)) F;have x1:=on xh;obtain⟨h2,ab,R,ad⟩:=av wh z;simp only[evs,seval,I,ao,ax,eq_true (oM:(i:Int)<L.length),p1,p3,<-ab];refine ac R.wf ad (cl x) x1 (uz x) ?_;rintro h3 o3 F3 n3;have Z:Fr [] hh h3:=R.fresh F3 wh (pi _);obtain⟨b2,o2,y,q1,q2,q3,q4⟩:=(QI b (F.then Z)).ix cl .i64 (i:Int) oM oM;rw[so]at q4;have yh:=fr (hM y (Of q4)) (F.then Z);have y1:=on yh;obtain⟨h4,aj,J,ah⟩:=av Z.wf z;simp only[evs,seval,g1,q1,q3,<-aj];refine ac J.wf ah (cl y) y1 (uz y) ?_;rintro h5 o5 F5 n5;have U:Fr [] h3 h5:=J.fresh F5 Z.wf (pi _);have lx:=Sv (U.get o3) (cl x);have ly:=Sv o5 (cl y);simp only[evs,seval,g2,lx,ly];refine⟨hg,ae (sm U.wf (fr xh (Z.then U)) (fr yh U)) ?_⟩;rintro _ h6 ⟨F6,r,rfl,er⟩;have ak:=(Z.then U).then F6;cases r with
    |true=>
     simp(disch:=omega) only[evs,seval,fwrap_i64,I];refine rqn ⟨L.length-(i+1),oM,F.then ak,i+1,iS,iX,iX,iX,iX,oM,rE e p4 q4 (er.1 rfl),rfl⟩
    |false=>
     simp only[evs,seval];exact⟨F.then ak,false,rfl,by simpa using zy p4 q4 (fun z=>by simpa using er.2 z)⟩
   ·simp only[evs,seval,I,ao,eq_false (oM:¬(i:Int)<L.length)];rw[Qs oM,Qs oM]at e;exact⟨F,true,rfl,by simpa using e⟩
 ·refine aa (hf:=hf) ?_;simp only[evs,seval,a.len,b.len,eq_false (oM:¬(L.length:Int)=(M.length:Int))];exact⟨Qw w,false,rfl,by simp;exact fun e=>ce (er_len e)⟩
theorem El{x y:Nt}(w:WF h)(a:NtH h x)(b:NtH h y):ay go 83 [.agg x.cells,.agg y.cells] h fun u h'=>Fr [] h h'/\∃r:Bool,u=.bool r/\(r=true↔x.er=y.er):=by
 have xo:az x.cells=true:=a.on;have yo:az y.cells=true:=b.on;obtain⟨h1,U,I,ab⟩:=av w x.cells;obtain⟨h2,R,D,J⟩:=av I.wf y.cells;have Z:=I.then D;have o1:=D.get ab;have x0:=o1.l1 0;have y0:=J.l1 0;have x1:=o1.l1 1;have y1:=J.l1 1;have x2:=o1.l1 2;have y2:=J.l1 2;have x3:=o1.l1 3;have y3:=J.l1 3;by_cases c0:x.n.k=y.n.k
 rotate_left
 ·refine aa ?_;simp only[evs,seval,<-U,<-R,x0,y0,eq_false (oM:¬(x.n.k:Int)=(y.n.k:Int))];exact⟨Z,false,rfl,by simp;exact fun e=>c0 (congrArg (fun z=>z.n.k) e)⟩
 by_cases c1:x.n.a=y.n.a
 rotate_left
 ·refine aa ?_;simp only[evs,seval,<-U,<-R,x0,y0,eq_true (oM:(x.n.k:Int)=(y.n.k:Int)),x1,y1,eq_false c1];exact⟨Z,false,rfl,by simp;exact fun e=>c1 (congrArg (fun z=>z.n.a) e)⟩
 by_cases c2:x.n.c=y.n.c
 rotate_left
 ·refine aa ?_;simp only[evs,seval,<-U,<-R,x0,y0,eq_true (oM:(x.n.k:Int)=(y.n.k:Int)),x1,y1,eq_true c1,x2,y2,eq_false c2];exact⟨Z,false,rfl,by simp;exact fun e=>c2 (congrArg (fun z=>z.n.c) e)⟩
 by_cases c3:x.n.t=y.n.t
 rotate_left
 ·refine aa ?_;simp only[evs,seval,<-U,<-R,x0,y0,eq_true (oM:(x.n.k:Int)=(y.n.k:Int)),x1,y1,eq_true c1,x2,y2,eq_true c2,x3,y3,eq_false c3];exact⟨Z,false,rfl,by simp;exact fun e=>c3 (congrArg (fun z=>z.n.t) e)⟩
 have x4:=o1.l1 4;have y4:=J.l1 4;refine aa ?_;simp only[evs,seval,<-U,<-R,x0,y0,eq_true (oM:(x.n.k:Int)=(y.n.k:Int)),x1,y1,eq_true c1,x2,y2,eq_true c2,x3,y3,eq_true c3,x4,y4];refine ae (yf rfl b8 (fun _=>rfl) ItmH.one ItmH.fr oM AU Z.wf (QI a.r Z) (QI b.r Z) (fun z m=>(a.i z m).fr Z) (fun z m=>(b.i z m).fr Z) (by have:=a.n;omega) (by have:=b.n;omega)) ?_;rintro _ h3 ⟨F3,r,rfl,er⟩;simp only[evs,seval];refine⟨Z.then F3,r,rfl,er.trans ?_⟩;simp only[Nt.er,Nt.mk.injEq,Ntc.mk.injEq,c0,c1,c2,c3,true_and,and_true]
structure EvM(h:Heap)(x:Evt):Prop where
 rn:Recs Nt.cells 5 h x.vN x.Ns
 hx:∀y∈x.Ns,NtH h y
 n:x.Ns.length<=100000
 r:Recs htC 2 h x.vT x.Tl
 t:x.Tl.length<=100000
theorem EvM.fr(a:EvM h x)(f:Fr [] h h'):EvM h' x:=⟨QI a.rn f,fun y m=>(a.hx y m).fr f,a.n,QI a.r f,a.t⟩
theorem EvM.on(a:EvM h x):az x.cells=true:=by
 have n1:x.vN.one=true:=RI a.rn;have t1:x.vT.one=true:=RI a.r;simp only[Evt.cells,af,ag,n1,t1];rfl
theorem EvtH.m(a:EvtH h x N):EvM h x:=⟨a.rn,a.hx,by have:=a.n;omega,a.t.r,by have:=a.t.n;omega⟩
theorem Em(w:WF h)(a:EvM h x)(b:EvM h y):ay go 40 [.agg x.cells,.agg y.cells] h fun u h'=>Fr [] h h'/\∃r:Bool,u=.bool r/\(r=true↔x.er=y.er):=by
 have xo:az x.cells=true:=a.on;have yo:az y.cells=true:=b.on;obtain⟨h1,R,I,ab⟩:=av w x.cells;obtain⟨h2,J,D,U⟩:=av I.wf y.cells;have Z:=I.then D;have o1:=D.get ab;have x0:=o1.l1 0;have y0:=U.l1 0;have x1:=o1.l1 1;have y1:=U.l1 1;have x2:=o1.l1 2;have y2:=U.l1 2;by_cases c0:x.k=y.k
 rotate_left
 ·refine aa ?_;simp only[evs,seval,<-R,<-J,x0,y0,eq_false (oM:¬(x.k:Int)=(y.k:Int))];exact⟨Z,false,rfl,by simp;exact fun e=>c0 (congrArg (fun z=>z.k) e)⟩
 by_cases c1:x.to=y.to
 rotate_left
 ·refine aa ?_;simp only[evs,seval,<-R,<-J,x0,y0,eq_true (oM:(x.k:Int)=(y.k:Int)),x1,y1,eq_false c1];exact⟨Z,false,rfl,by simp;exact fun e=>c1 (congrArg (fun z=>z.to) e)⟩
 by_cases c2:x.key=y.key
 rotate_left
 ·refine aa ?_;simp only[evs,seval,<-R,<-J,x0,y0,eq_true (oM:(x.k:Int)=(y.k:Int)),x1,y1,eq_true c1,x2,y2,eq_false (oM:¬(x.key:Int)=(y.key:Int))];exact⟨Z,false,rfl,by simp;exact fun e=>c2 (congrArg (fun z=>z.key) e)⟩
 have x4:=o1.l1 4;have y4:=U.l1 4;have x3:=o1.l1 3;have y3:=U.l1 3;refine aa ?_;simp only[evs,seval,<-R,<-J,x0,y0,eq_true (oM:(x.k:Int)=(y.k:Int)),x1,y1,eq_true c1,x2,y2,eq_true (oM:(x.key:Int)=(y.key:Int)),x4,y4];refine ae (IA rfl dM Ny (Recs.a (QI a.r Z)) (Recs.a (QI b.r Z)) a.t b.t) ?_;rintro _ _ ⟨rfl,r,rfl,er⟩;cases r with
 |false=>
  simp only[evs,seval];exact⟨Z,false,rfl,by simp;exact fun e=>by simpa using er.2 (congrArg (fun z=>z.Tl) e)⟩
 |true=>
  simp only[evs,seval,x3,y3];refine ae (yf rfl fJ (fun _=>rfl) NtH.on NtH.fr oM El Z.wf (QI a.rn Z) (QI b.rn Z) (fun z m=>(a.hx z m).fr Z) (fun z m=>(b.hx z m).fr Z) a.n b.n) ?_;rintro _ h3 ⟨F3,r,rfl,ad⟩;simp only[evs,seval];have c5:=er.1 rfl;refine⟨Z.then F3,r,rfl,ad.trans ?_⟩;simp only[Evt.er,Evt.mk.injEq,c0,c1,c2,c5,true_and,and_true]
end
open Go.Ev.St
abbrev pt1(k:Nat)(tg ky:Str)(sl:List Slo)(tx:Str)(vs vp:V)(sub:PT):PT:=.cons k tg ky sl tx vs vp sub .nil
abbrev ptC(k:Nat)(tg ky tx:Str)(vs vp:V):List V:=[ZY (k:Int),.str tg,.str ky,vs,.str tx,vp]
def PsE(k:Nat)(tg ky:Str)(sl:List Slo)(tx:Str)(vs vp:V)(sub:PT):Prop:=∀(h:Heap)(k':Nat)(tg' ky':Str)(sl':List Slo)(tx':Str)(vs' vp':V)(sub':PT),WF h->PH h (pt1 k tg ky sl tx vs vp sub)->PH h (pt1 k' tg' ky' sl' tx' vs' vp' sub')->
 ay go 80 [.agg (ptC k tg ky tx vs vp),.agg (ptC k' tg' ky' tx' vs' vp')] h fun u h'=>Fr [] h h'/\∃r:Bool,u=.bool r/\(r=true↔(pt1 k tg ky sl tx vs vp sub).er=(pt1 k' tg' ky' sl' tx' vs' vp' sub').er)
def PsA:PT->Prop
 |.nil=>True
 |.cons k tg ky sl tx vs vp sub nx=>PsE k tg ky sl tx vs vp sub/\PsA nx
theorem PsA.at':∀{t:PT}(i:Nat),PsA t->PsA (t.at' i)
 |.nil,0,_=>trivial
 |.nil,_+1,_=>trivial
 |.cons _ _ _ _ _ _ _ _ _,0,a=>a
 |.cons _ _ _ _ _ _ _ _ _,i+1,⟨_,g⟩=>PsA.at' i g
theorem PT.at0(t:PT):t.at' 0=t:=by cases t<;>rfl
section
variable {h : Heap}
theorem Fo{va vb:V}{L M:PT}(A:PsA L)(w:WF h)(a:Sl h 6 va L.len L.cells)(b:Sl h 6 vb M.len M.cells)(hL:PH h L)(hM:PH h M)(nL:L.len<=100000)(nM:M.len<=100000):
 ay go 146 [va,vb,.func (.func 80) [] []] h fun u h'=>Fr [] h h'/\∃r:Bool,u=.bool r/\(r=true↔L.er=M.er):=by
 by_cases cl:L.len=M.len
 ·refine aa ?_;simp only[evs,seval,a.len,b.len,eq_true (oM:(L.len:Int)=(M.len:Int))];refine aw (fun n env hh=>Fr [] h hh/\∃i:Nat,env.get 17=some (ZZ i)/\env.get 16=some (ZZ L.len)/\env.get 15=some va/\env.get 1=some vb/\env.get 2=some (.func (.func 80) [] [])/\i<=L.len/\(L.er=M.er↔(L.at' i).er=(M.at' i).er)/\n=L.len-i) L.len oM ?_ ?_
  ·exact⟨Qw w,0,iS,iS,iS,iS,iS,oM,by rw[PT.at0,PT.at0],rfl⟩
  ·rintro n env hh ⟨F,i,aA,a4,a5,g1,g2,hi,e,rfl⟩;have wh:=F.wf;by_cases c:i<L.len
   ·obtain⟨k,tg,ky,sl,tx,vs,vp,sub,nx,e1,e2,e3,e4,e5,e6⟩:=L.split i c;obtain⟨k',D,ab,aj,ad,I,J,R,a2,f1,f2,f3,f4,f5,f6⟩:=M.split i oM;have Ai:=A.at' i;have U:=hL.at' i;have Z:=hM.at' i;rw[e1]at Ai U e;rw[f1]at Z e;have q1:PH h (pt1 k tg ky sl tx vs vp sub):=⟨U.1,U.2.1,U.2.2.1,U.2.2.2.1,U.2.2.2.2.1,U.2.2.2.2.2.1,trivial⟩;have q2:PH h (pt1 k' D ab aj ad I J R):=⟨Z.1,Z.2.1,Z.2.2.1,Z.2.2.2.1,Z.2.2.2.2.1,Z.2.2.2.2.2.1,trivial⟩;obtain⟨b1,o1,p1,p2⟩:=(a.fr F).ix6 c e2;have p3:=p2.2.2.2.2.2.2;have x1:az (ptC k tg ky tx vs vp)=true:=Uc q1;have y1:az (ptC k' D ab ad I J)=true:=Uc q2;obtain⟨h2,aF,ak,aR⟩:=av wh [ZY 0,.str [],.str [],.nils,.str [],.nils];simp only[evs,seval,aA,a4,a5,eq_true (oM:(i:Int)<L.len),p1,p3,<-aF];refine ac ak.wf aR rfl x1 rfl ?_;rintro h3 o3 F3 n3;have ah:Fr [] hh h3:=ak.fresh F3 wh (pi _);obtain⟨b2,o2,r1,r2⟩:=(b.fr (F.then ah)).ix6 oM f2;have r3:=r2.2.2.2.2.2.2;obtain⟨h4,a1,ao,a0⟩:=av ah.wf [ZY 0,.str [],.str [],.nils,.str [],.nils];simp only[evs,seval,g1,r1,r3,<-a1];refine ac ao.wf a0 rfl y1 rfl ?_;rintro h5 o5 F5 n5;have ax:Fr [] h3 h5:=ao.fresh F5 ah.wf (pi _);have lx:=(ax.get o3).la 6
    have ly:=o5.la 6
    have aE:=(F.then ah).then ax;simp only[evs,seval,g2,lx,ly];refine ae (Ai.1 h5 k' D ab aj ad I J R ax.wf (PH.fr aE q1) (PH.fr aE q2)) ?_;rintro _ h6 ⟨F6,r,rfl,er⟩;have a3:=aE.then F6;have ed:(PT.cons k tg ky sl tx vs vp sub nx).er=(PT.cons k' D ab aj ad I J R a2).er↔(pt1 k tg ky sl tx vs vp sub).er=(pt1 k' D ab aj ad I J R).er/\nx.er=a2.er:=by
     simp only[PT.er,PT.cons.injEq,true_and,and_true];constructor
     ·grind
     ·grind
    rw[ed]at e;cases r with
    |true=>
     have et:=er.1 rfl;simp(disch:=omega) only[evs,seval,fwrap_i64,aA];refine rqn ⟨L.len-(i+1),oM,a3,i+1,iS,iX,iX,iX,iX,oM,by rw[e3,f3,e];exact⟨fun z=>z.2,fun z=>⟨et,z⟩⟩,rfl⟩
    |false=>
     have en:¬_:=fun z=>by simpa using er.2 z
     simp only[evs,seval];exact⟨a3,false,rfl,by rw[e];exact⟨fun z=>by simp at z,fun z=>absurd z.1 en⟩⟩
   ·simp only[evs,seval,aA,a4,eq_false (oM:¬(i:Int)<L.len)];rw[Uh _ _ oM,Uh _ _ oM]at e;exact⟨F,true,rfl,by rw[e];simp⟩
 ·refine aa ?_;simp only[evs,seval,a.len,b.len,eq_false (oM:¬(L.len:Int)=(M.len:Int))];exact⟨Qw w,false,rfl,by simp;intro e;exact cl (by rw[<-PT.er_len L,e,PT.er_len])⟩
end
theorem u9{k:Nat}{tg ky:Str}{sl:List Slo}{tx:Str}{vs vp:V}{sub:PT}(A:PsA sub):PsE k tg ky sl tx vs vp sub:=by
 intro h k' I D aE ab aA ax ao w a b;have xo:az (ptC k tg ky tx vs vp)=true:=Uc a;have yo:az (ptC k' I D ab aA ax)=true:=Uc b;obtain⟨ak,as,al,ap,an,ah,_⟩:=a;obtain⟨bk,bs,bl,bp,bn,bh,_⟩:=b;obtain⟨h1,R,ad,aF⟩:=av w (ptC k tg ky tx vs vp);obtain⟨h2,J,aj,U⟩:=av ad.wf (ptC k' I D ab aA ax);have Z:=ad.then aj;have o1:=aj.get aF;have x0:=o1.l1 0;have y0:=U.l1 0;have x1:=o1.l1 1;have y1:=U.l1 1;have x2:=o1.l1 2;have y2:=U.l1 2;have x3:=o1.l1 3;have y3:=U.l1 3;have x4:=o1.l1 4;have y4:=U.l1 4;have x5:=o1.l1 5;have y5:=U.l1 5;have ed:(pt1 k tg ky sl tx vs vp sub).er=(pt1 k' I D aE ab aA ax ao).er↔k=k'/\tg=I/\ky=D/\sl=aE/\tx=ab/\sub.er=ao.er:=by
  simp only[PT.er,PT.cons.injEq,true_and,and_true]
 rw[ed];by_cases c0:k=k'
 rotate_left
 ·refine aa ?_;simp only[evs,seval,<-R,<-J,x0,y0,eq_false (oM:¬(k:Int)=(k':Int))];exact⟨Z,false,rfl,by simp;intro e;exact absurd e c0⟩
 have d0:=eq_true (oM:(k:Int)=(k':Int));by_cases c1:tg=I
 rotate_left
 ·refine aa ?_;simp only[evs,seval,<-R,<-J,x0,y0,d0,x1,y1,aQ,Ek c1];exact⟨Z,false,rfl,by simp;intro _ e;exact absurd e c1⟩
 have d1:(tg==I)=true:=by simpa using c1
 by_cases c2:ky=D
 rotate_left
 ·refine aa ?_;simp only[evs,seval,<-R,<-J,x0,y0,d0,x1,y1,aQ,d1,x2,y2,Ek c2];exact⟨Z,false,rfl,by simp;intro _ _ e;exact absurd e c2⟩
 have d2:(ky==D)=true:=by simpa using c2
 by_cases c4:tx=ab
 rotate_left
 ·refine aa ?_;simp only[evs,seval,<-R,<-J,x0,y0,d0,x1,y1,aQ,d1,x2,y2,d2,x4,y4,Ek c4];exact⟨Z,false,rfl,by simp;intro _ _ _ _ e;exact absurd e c4⟩
 have d4:(tx==ab)=true:=by simpa using c4
 refine aa ?_;simp only[evs,seval,<-R,<-J,x0,y0,d0,x1,y1,aQ,d1,x2,y2,d2,x4,y4,d4,x3,y3];refine ae (IA rfl bV K4 (Recs.a (QI as Z)) (Recs.a (QI bs Z)) oM oM) ?_;rintro _ _ ⟨rfl,r,rfl,er⟩;cases r with
 |false=>
  have c3:¬sl=aE:=fun z=>by simpa using er.2 z
  simp only[evs,seval];exact⟨Z,false,rfl,by simp;intro _ _ _ e;exact absurd e c3⟩
 |true=>
  have c3:=er.1 rfl;simp only[evs,seval,x5,y5];refine ae (Fo A Z.wf (ap.fr Z) (bp.fr Z) (PH.fr Z ah) (PH.fr Z bh) oM oM) ?_;rintro _ h3 ⟨F3,r,rfl,aR⟩;simp only[evs,seval];exact⟨Z.then F3,r,rfl,aR.trans ⟨fun z=>⟨c0,c1,c2,c3,c4,z⟩,fun z=>z.2.2.2.2.2⟩⟩
theorem psa:∀t:PT,PsA t
 |.nil=>trivial
 |.cons _ _ _ _ _ _ _ sub nx=>⟨u9 (psa sub),psa nx⟩
open Go.Ev.St
section
variable {h : Heap}
theorem xT(a:KndH h q):az q.cells=true:=by
 have p:=Uc a;show az ([ZY (q.k:Int),.str q.tg,.str q.ky,q.vs,.str q.tx,q.vp]++[ZZ q.base,.bool q.sticky,ZZ q.pool])=true;rw[bQ];have Z:az [ZY (q.k:Int),.str q.tg,.str q.ky,q.vs,.str q.tx,q.vp]=true:=p;rw[Z];rfl
theorem En{x y:Knd}(w:WF h)(a:KndH h x)(b:KndH h y):ay go 38 [.agg x.cells,.agg y.cells] h fun u h'=>Fr [] h h'/\∃r:Bool,u=.bool r/\(r=true↔x.er=y.er):=by
 have xo:az x.cells=true:=xT a;have yo:az y.cells=true:=xT b;obtain⟨h1,U,I,ab⟩:=av w x.cells;obtain⟨h2,R,D,J⟩:=av I.wf y.cells;have Z:=I.then D;have o1:=D.get ab;have x6:=o1.l1 6;have y6:=J.l1 6;have x7:=o1.l1 7;have y7:=J.l1 7;have x8:=o1.l1 8;have y8:=J.l1 8;by_cases c6:x.base=y.base
 rotate_left
 ·refine aa ?_;simp only[evs,seval,<-U,<-R,x6,y6,eq_false c6];exact⟨Z,false,rfl,by simp;exact fun e=>c6 (congrArg (fun z=>z.base) e)⟩
 by_cases c7:x.sticky=y.sticky
 rotate_left
 ·refine aa ?_;simp only[evs,seval,<-U,<-R,x6,y6,eq_true c6,x7,y7,eq_false c7];exact⟨Z,false,rfl,by simp;exact fun e=>c7 (congrArg (fun z=>z.sticky) e)⟩
 by_cases c8:x.pool=y.pool
 rotate_left
 ·refine aa ?_;simp only[evs,seval,<-U,<-R,x6,y6,eq_true c6,x7,y7,eq_true c7,x8,y8,eq_false c8];exact⟨Z,false,rfl,by simp;exact fun e=>c8 (congrArg (fun z=>z.pool) e)⟩
 have xp:aH h2 h.next 0 6=some (ptC x.k x.tg x.ky x.tx x.vs x.vp):=by rw[o1.ld];rfl
 have yp:aH h2 h1.next 0 6=some (ptC y.k y.tg y.ky y.tx y.vs y.vp):=by rw[J.ld];rfl
 refine aa ?_;simp only[evs,seval,<-U,<-R,x6,y6,eq_true c6,x7,y7,eq_true c7,x8,y8,eq_true c8,xp,yp];refine ae (u9 (psa x.sub) h2 y.k y.tg y.ky y.sl y.tx y.vs y.vp y.sub Z.wf (a.fr Z) (b.fr Z)) ?_;rintro _ h3 ⟨F3,r,rfl,er⟩;simp only[evs,seval];refine⟨Z.then F3,r,rfl,er.trans ?_⟩;simp only[Knd.er,Knd.mk.injEq,PT.er,PT.cons.injEq,c6,c7,c8,true_and,and_true]
structure ScM(h:Heap)(c:Cfg)(vE:V)(Xs:List Evt):Prop where
 ks:Recs Knd.cells 9 h c.vK c.Ks
 kh:∀q∈c.Ks,KndH h q
 nk:c.Ks.length<=100000
 ev:Recs Evt.cells 5 h vE Xs
 eh:∀x∈Xs,EvM h x
 ne:Xs.length<=100000
theorem ScM.fr(a:ScM h c vE Xs)(f:Fr [] h h'):ScM h' c vE Xs:=⟨QI a.ks f,fun q m=>(a.kh q m).fr f,a.nk,QI a.ev f,fun x m=>(a.eh x m).fr f,a.ne⟩
theorem ScM.on(a:ScM h c vE Xs):az (scC c vE)=true/\az c.cells=true:=by
 have Z:c.vK.one=true:=RI a.ks;have U:vE.one=true:=RI a.ev;constructor
 ·simp only[scC,Cfg.cells,Rb,Ri,af,ag,Z,U];rfl
 ·simp only[Cfg.cells,af,ag,Z];rfl
theorem ScrH.m(a:ScrH h c vE Xs):ScM h c vE Xs:=⟨a.ks,a.kh,by have:=a.k3;omega,a.ev,fun x m=>(a.eh x m).m,by have:=a.n;omega⟩
def As:Cfg:=⟨0,0,0,.nils,[],0,0,0⟩
theorem ScM.zero:ScM h As .nils []:=⟨SH,by simp[As],by simp[As],SH,iS,iS⟩
theorem fH{d:Cfg}{vF:V}{Ys:List Evt}(w:WF h)(a:ScM h c vE Xs)(b:ScM h d vF Ys):ay go 11 [.agg (scC c vE),.agg (scC d vF)] h fun u h'=>Fr [] h h'/\∃r:Bool,u=.bool r/\(r=true↔ScE c Xs d Ys):=by
 have xo:=a.on;have yo:=b.on;have bf:=xo.1;have bn:=yo.1;obtain⟨h1,ao,ad,a4⟩:=av w (scC c vE);obtain⟨h2,ax,aE,aA⟩:=av ad.wf (scC d vF);have a2:=ad.then aE;have o1:=aE.get a4;refine aa ?_;simp only[evs,seval,<-ao,<-ax];refine lW [zA 0 2,zn (.ld 7 true (.l 0)),zA 0 3,zn (.ld 7 true (.l 0))] _ rfl ?_;have U:=QW a2.wf [ZZ 0,ZZ 0,ZZ 0,.nils,ZZ 0,ZZ 0,ZY 0];have aR:=Ro a2.wf [ZZ 0,ZZ 0,ZZ 0,.nils,ZZ 0,ZZ 0,ZY 0];have a5:(halloc h2 [ZZ 0,ZZ 0,ZZ 0,.nils,ZZ 0,ZZ 0,ZY 0]).next=h2.next+1:=rfl;generalize halloc h2 [ZZ 0,ZZ 0,ZZ 0,.nils,ZZ 0,ZZ 0,ZY 0]=h3 at U aR a5|-;have n1:=ad.next;have n2:h1.next<h2.next:=by rw[ax];exact Sz _
 have n0:h.next<h1.next:=by rw[ao];exact Sz _
 have a9:=xo.2;have a8:=yo.2;obtain⟨h4,aF,ah,a3⟩:=av U.wf [ZZ 0,ZZ 0,ZZ 0,.nils,ZZ 0,ZZ 0,ZY 0];have n4:=hnx aF
 have a0:=U.then ah;have ak:=a0.get o1;have aj:=a0.get aA;have J:aH h3 h.next 0 7=some c.cells:=by rw[(U.get o1).ld];rfl
 have R:aH h3 h1.next 0 7=some d.cells:=by rw[(U.get aA).ld];rfl
 have D:aH h4 h.next 0 7=some c.cells:=by rw[ak.ld];rfl
 have ab:aH h4 h1.next 0 7=some d.cells:=by rw[aj.ld];rfl
 simp only[evs,seval,eff,J,R,<-aF,cR,fu];refine ac ah.wf (ah.get aR) rfl a9 rfl ?_;rintro h5 o5 F5 n5;have bg:aH h5 h.next 0 7=some c.cells:=by rw[(F5.own _ _ oO ak).ld];rfl
 have I:aH h5 h1.next 0 7=some d.cells:=by rw[(F5.own _ _ oO aj).ld];rfl
 simp only[evs,eff];refine ac F5.wf (F5.own _ _ oO a3) rfl a8 rfl ?_;rintro h6 o6 F6 n6;have Z:Fr [] h h6:=((a2.then a0).fresh F5 w oM).fresh F6 w (by have:=U.next;omega);have bm:aH h6 h.next 0 7=some c.cells:=by rw[(F6.own _ _ oO (F5.own _ _ oO ak)).ld];rfl
 have bi:aH h6 h1.next 0 7=some d.cells:=by rw[(F6.own _ _ oO (F5.own _ _ oO aj)).ld];rfl
 have p5:Own h6 h2.next c.cells:=F6.own _ _ oO o5;have x0:=p5.l1 0;have y0:=o6.l1 0;have x1:=p5.l1 1;have y1:=o6.l1 1;have x2:=p5.l1 2;have y2:=o6.l1 2;have x4:=p5.l1 4;have y4:=o6.l1 4;have x5:=p5.l1 5;have y5:=o6.l1 5;have x6:=p5.l1 6;have y6:=o6.l1 6;have x3:=p5.l1 3;have y3:=o6.l1 3;by_cases c0:c.view=d.view
 rotate_left
 ·simp only[evs,seval,DF,J,R,D,ab,I,x0,y0,eq_false c0];exact⟨Z,false,rfl,by simp;exact fun e=>c0 e.v⟩
 by_cases c1:c.over=d.over
 rotate_left
 ·simp only[evs,seval,DF,J,R,D,ab,I,x0,y0,eq_true c0,x1,y1,eq_false c1];exact⟨Z,false,rfl,by simp;exact fun e=>c1 e.o⟩
 by_cases c2:c.least=d.least
 rotate_left
 ·simp only[evs,seval,DF,J,R,D,ab,I,x0,y0,eq_true c0,x1,y1,eq_true c1,x2,y2,eq_false c2];exact⟨Z,false,rfl,by simp;exact fun e=>c2 e.l⟩
 by_cases c4:c.cap=d.cap
 rotate_left
 ·simp only[evs,seval,DF,J,R,D,ab,I,x0,y0,eq_true c0,x1,y1,eq_true c1,x2,y2,eq_true c2,x4,y4,eq_false c4];exact⟨Z,false,rfl,by simp;exact fun e=>c4 e.p⟩
 by_cases c5:c.arena=d.arena
 rotate_left
 ·simp only[evs,seval,DF,J,R,D,ab,I,x0,y0,eq_true c0,x1,y1,eq_true c1,x2,y2,eq_true c2,x4,y4,eq_true c4,x5,y5,eq_false c5];exact⟨Z,false,rfl,by simp;exact fun e=>c5 e.a⟩
 by_cases c6:c.flaw=d.flaw
 rotate_left
 ·simp only[evs,seval,DF,J,R,D,ab,I,x0,y0,eq_true c0,x1,y1,eq_true c1,x2,y2,eq_true c2,x4,y4,eq_true c4,x5,y5,eq_true c5,x6,y6,eq_false (oM:¬(c.flaw:Int)=(d.flaw:Int))];exact⟨Z,false,rfl,by simp;exact fun e=>c6 e.f⟩
 have a6:=a.fr Z;have b6:=b.fr Z;simp only[evs,seval,DF,J,R,D,ab,I,x0,y0,eq_true c0,x1,y1,eq_true c1,x2,y2,eq_true c2,x4,y4,eq_true c4,x5,y5,eq_true c5,x6,y6,eq_true (oM:(c.flaw:Int)=(d.flaw:Int)),x3,y3];refine ae (yf rfl aW (fun _=>rfl) xT KndH.fr oM En Z.wf a6.ks b6.ks a6.kh b6.kh a6.nk b6.nk) ?_;rintro _ h7 ⟨F7,r,rfl,er⟩;have a1:=Z.then F7;cases r with
 |false=>
  simp only[evs,seval];exact⟨a1,false,rfl,by simp;exact fun e=>by simpa using er.2 e.k⟩
 |true=>
  have bh:=Z.next;have xE:=(F7.get (F6.own _ _ oO (F5.own _ _ oO ak))).l1 7;have yE:=(F7.get (F6.own _ _ oO (F5.own _ _ oO aj))).l1 7;have a7:=a6.fr F7;have b7:=b6.fr F7;simp only[evs,seval,xE,yE];refine ae (yf rfl aZ (fun _=>rfl) EvM.on EvM.fr oM Em a1.wf a7.ev b7.ev a7.eh b7.eh a7.ne b7.ne) ?_;rintro _ h8 ⟨F8,r,rfl,bc⟩;simp only[evs,seval];exact⟨a1.then F8,r,rfl,bc.trans ⟨fun e=>⟨c0,c1,c2,c4,c5,c6,er.1 rfl,e⟩,fun e=>e.e⟩⟩
end
open Go.Ev.St
def Chg(lo bc:Nat)(h:Heap)(c:Cfg)(Xs:List Evt)(u:V)(h':Heap):Prop:=∃S:List Nat,(∀z∈S,z=bc\/lo<=z)/\Fr S h h'/\(u=.bool false\/u=.bool true/\∃(d:Cfg)(vF:V)(Ys:List Evt),Own h' bc (scC d vF)/\ScM h' d vF Ys/\¬ScE d Ys c Xs)
def CpX(lo hi:Nat)(h:Heap)(c:Cfg)(vE:V)(Xs:List Evt):Prop:=∃k1 k2 k3,lo<=k1/\k1<=k2/\k2<=k3/\k3<=hi/\Cq 9 lo k1 h c.vK c.Ks.length (c.Ks.flatMap Knd.cells)/\CKs k2 h k1 c.Ks/\Cq 5 k2 k3 h vE Xs.length (Xs.flatMap Evt.cells)/\CEs hi h k3 Xs
theorem CpX.fr(w:WF h)(a:CpX lo hi h c vE Xs)(f:Fr S h h')(hS:∀z∈S,z<lo\/hi<=z):CpX lo hi h' c vE Xs:=by
 obtain⟨J,R,k3,D,U,q3,q4,I,ck,ge,Z⟩:=a;exact⟨J,R,k3,D,U,q3,q4,I.fr f (fun z m=>by have:=hS z m;omega),CKs.fr w f ck (fun z m=>by have:=hS z m;omega),ge.fr f (fun z m=>by have:=hS z m;omega),CEs.fr w f Z (fun z m=>by have:=hS z m;omega)⟩
structure CpB(lo hi bc:Nat)(h:Heap)(c:Cfg)(vE:V)(Xs:List Evt):Prop where
 o:Own h bc (scC c vE)
 l:bc<lo\/hi<=bc
 cp:CpX lo hi h c vE Xs
 a:ScrH h c vE Xs
 cf:cfB c=true
theorem CKs.keep{L:List Knd}(w:WF h)(a:CKs hi h lo L)(f:Fr S h h')(hS:∀z∈S,z<lo\/hi<=z):∀q∈L,KndH h' q:=CKs.kh f.wf (CKs.fr w f a hS)
theorem CEs.keep{h0:Heap}{L:List Evt}(w:WF h)(a:CEs hi h lo L)(b:∀x∈L,EvtH h0 x N)(f:Fr S h h')(hS:∀z∈S,z<lo\/hi<=z):∀x∈L,EvM h' x:=fun x m=>(CEs.ev f.wf (CEs.fr w f a hS) rfl b x m).m
theorem HD(k:okK q=true):q.tg.length<=16/\∀{k':Nat}{tg ky:Str}{sl:List Slo}{tx:Str}{va vc:V}{sub U:PT},q.sub=.cons k' tg ky sl tx va vc sub U->tx.length<=64:=by
 simp only[okK,be,decide_eq_true_eq]at k;have c:=k.2;unfold PT.count at c;split at c
 ·rename_i h;obtain⟨r,J⟩:∃r,r=(PT.node q.k q.tg q.ky q.sl q.tx q.sub q.sub.walk 1 0).1:=⟨_,rfl⟩;have e:PT.node q.k q.tg q.ky q.sl q.tx q.sub q.sub.walk 1 0=(r,true):=by rw[J,<-h.2]
  obtain⟨p,s⟩:=PT.node_true e;refine⟨(iJ p).1,fun{k' tg ky sl tx va vc sub U} D=>?_⟩;rw[D]at s;simp only[PT.walk]at s;split at s
  ·rename_i R;obtain⟨r2,Z⟩:∃r2,r2=(PT.node k' tg ky sl tx sub sub.walk (1+1) (0+1)).1:=⟨_,rfl⟩;have I:PT.node k' tg ky sl tx sub sub.walk (1+1) (0+1)=(r2,true):=by rw[Z,<-R]
   exact(iJ (PT.node_true I).1).2.2.1
  ·grind
 ·exact absurd rfl c
theorem I1(cf:cfB c=true):∀q∈c.Ks,okK q=true:=by
 simp only[cfB,iT,okR,be,decide_eq_true_eq,QM]at cf;obtain⟨_,_,_,_,_,_,_,⟨⟨_,_,_,_,ok⟩,_⟩,_⟩:=cf;exact ok
theorem gw{b:Nat}(U:b<256)(Z:b%16=n)(k:Int)(e:(n:Int)=k:=by exact rfl):aP (.ib .rem) [ZY (b:Int),ZY 16]=some (ZY k):=by
 have r:=aV .u8 b 16 oM rfl;rw[Z,e]at r;exact r
def CG(n:Nat):Prop:=∀{h:Heap}{lo hi bc b:Nat}{c:Cfg}{vE:V}{Xs:List Evt},WF h->CpB lo hi bc h c vE Xs->b<256->b%16=n->ay go 14 [.ptr bc 0,ZY (b:Int)] h (Chg lo bc h c Xs)
section
variable {h h' : Heap} {lo hi bc b : Nat} {c d : Cfg} {vE : V} {Xs : List Evt}
theorem CpB.l7(B:CpB lo hi bc h c vE Xs):ai h bc 7=some vE:=B.o.ld1 7
theorem CpB.tt(B:CpB lo hi bc h c vE Xs)(w:WF h)(R:Own h' bc (scC d vE))(F:Fr [bc] h h')(I:d.vK=c.vK)(U:d.Ks=c.Ks)(ne:¬ScE d Xs c Xs):Chg lo bc h c Xs (.bool true) h':=by
 obtain⟨k1,k2,k3,q1,q2,q3,q4,D,ck,ge,J⟩:=B.cp;have bl:=B.l;have Z:∀z∈[bc],z<lo\/hi<=z:=fun z m=>by simp at m;omega
 refine⟨[bc],fun z m=>.inl (eV m),F,.inr ⟨rfl,d,vE,Xs,R,⟨?_,?_,by rw[U];have:=B.a.k3;omega,(ge.fr F fun z m=>by have:=Z z m;omega).sl,CEs.keep w J B.a.eh F fun z m=>by have:=Z z m;omega,by have:=B.a.n;omega⟩,ne⟩⟩
 ·rw[I,U];exact(D.fr F fun z m=>by have:=Z z m;omega).sl
 ·rw[U];exact CKs.keep w ck F fun z m=>by have:=Z z m;omega
theorem Lg:CG 0:=by
 intro h lo hi bc b c vE Xs w B J I;have R:=B.o.l1 0;have Z:=B.cf;simp only[cfB,iT,okR,be,decide_eq_true_eq]at Z;have D:=Sn (c.view+1) (by have:=Z;omega) (by have:=Z;omega);refine aa ?_;simp[evs,B.l7,B.a.ev.len,gw J I 0,R,D];refine ac (c':=scC {c with view:=c.view+1} vE) w B.o rfl rfl rfl ?_;rintro h' U F n';simp[evs];exact B.tt w U F rfl rfl fun e=>by have:=e.v;simp at this;try omega
theorem Lf:CG 1:=by
 intro h lo hi bc b c vE Xs w B J I;have R:=B.o.l1 1;have Z:=B.cf;simp only[cfB,iT,okR,be,decide_eq_true_eq]at Z;have D:=Sn (c.over+1) (by have:=Z;omega) (by have:=Z;omega);refine aa ?_;simp[evs,B.l7,B.a.ev.len,gw J I 1,R,D];refine ac (c':=scC {c with over:=c.over+1} vE) w B.o rfl rfl rfl ?_;rintro h' U F n';simp[evs];exact B.tt w U F rfl rfl fun e=>by have:=e.o;simp at this;try omega
theorem Ld:CG 2:=by
 intro h lo hi bc b c vE Xs w B J I;have R:=B.o.l1 2;have Z:=B.cf;simp only[cfB,iT,okR,be,decide_eq_true_eq]at Z;have D:=Sn (c.least+1) (by have:=Z;omega) (by have:=Z;omega);refine aa ?_;simp[evs,B.l7,B.a.ev.len,gw J I 2,R,D];refine ac (c':=scC {c with least:=c.least+1} vE) w B.o rfl rfl rfl ?_;rintro h' U F n';simp[evs];exact B.tt w U F rfl rfl fun e=>by have:=e.l;simp at this;try omega
theorem Lc:CG 3:=by
 intro h lo hi bc b c vE Xs w B J I;have R:=B.o.l1 4;have Z:=B.cf;simp only[cfB,iT,okR,be,decide_eq_true_eq]at Z;have D:=Sn (c.cap+1) (by have:=Z;omega) (by have:=Z;omega);refine aa ?_;simp[evs,B.l7,B.a.ev.len,gw J I 3,R,D];refine ac (c':=scC {c with cap:=c.cap+1} vE) w B.o rfl rfl rfl ?_;rintro h' U F n';simp[evs];exact B.tt w U F rfl rfl fun e=>by have:=e.p;simp at this;try omega
theorem Lb:CG 4:=by
 intro h lo hi bc b c vE Xs w B J I;have R:=B.o.l1 5;have Z:=B.cf;simp only[cfB,iT,okR,be,decide_eq_true_eq]at Z;have D:=Sn (c.arena+1) (by have:=Z;omega) (by have:=Z;omega);refine aa ?_;simp[evs,B.l7,B.a.ev.len,gw J I 4,R,D];refine ac (c':=scC {c with arena:=c.arena+1} vE) w B.o rfl rfl rfl ?_;rintro h' U F n';simp[evs];exact B.tt w U F rfl rfl fun e=>by have:=e.a;simp at this;try omega
theorem La:CG 5:=by
 intro h lo hi bc b c vE Xs w B J I;have R:=B.o.l1 6;have Z:=B.cf;simp only[cfB,iT,okR,be,decide_eq_true_eq]at Z;have D:aB .u8 ((c.flaw:Int)+1)=((c.flaw+1:Nat):Int):=by
  rw[Go.Ev.fwrap_u8 _ oM (by have:=Z;omega)];omega
 refine aa ?_;simp[evs,B.l7,B.a.ev.len,gw J I 5,R,D];refine ac (c':=scC {c with flaw:=c.flaw+1} vE) w B.o rfl rfl rfl ?_;rintro h' U F n';simp[evs];exact B.tt w U F rfl rfl fun e=>by have:=e.f;simp at this;try omega
end
open Go.Ev.St
theorem Db{cs:α->List V}(Z:∀x,(cs x).length=n){L:List α}{i j:Nat}{x:α}(hx:L[i]? =some x)(U:j<n):nth (L.flatMap cs) (i*n+j)=nth (cs x) j:=by
 have R:i<L.length:=(QD.1 hx).1
 have e:L.flatMap cs=(L.take i).flatMap cs++(cs x++(L.drop (i+1)).flatMap cs):=by
  conv=>lhs;rw[<-RH i L,aX hx]
  simp
 rw[fq,fq,e,Rv (by rw[au Z,QN,Rt oM];omega),au Z,QN,Rt oM,Nat.add_sub_cancel_left,Sk (by rw[Z];exact U)]
section
variable {h : Heap} {lo hi bc b : Nat} {c : Cfg} {vE : V} {Xs : List Evt}
theorem CpB.kk(B:CpB lo hi bc h c vE Xs)(w:WF h){i:Nat}(ab:i<3):∃bK q,ai h bc 3=some (.slice bK 0 3 3)/\c.Ks[i]? =some q/\okK q=true/\okP q=true/\(∀j<9,ai h bK (i*9+j)=nth q.cells j)/\aP (.ixs 9) [.slice bK 0 3 3,ZZ (i:Int)]=some (.ptr bK (i*9))/\Own h bK (c.Ks.flatMap Knd.cells)/\
  ∀{h':Heap}{U:Knd},Own h' bK ((c.Ks.set i U).flatMap Knd.cells)->Fr [bK] h h'->(KndH h' q->KndH h' U)->¬U.er=q.er->Chg lo bc h c Xs (.bool true) h':=by
 obtain⟨k1,k2,k3,q1,q2,q3,q4,gk,ck,ge,ce⟩:=B.cp;have D:=B.a.k3;obtain⟨gl,⟨z,_⟩|⟨bK,b1,b2,ev,oK⟩⟩:=gk
 ·omega
 rw[D]at ev;have bl:=B.l;obtain⟨q,J⟩:∃q,c.Ks[i]? =some q:=⟨_,Qq oM⟩;have I:=Of J;refine⟨bK,q,by rw[<-ev];exact B.o.ld1 3,J,I1 B.cf q I,?_,fun j hj=>by rw[oK.ld1];exact Db aW J hj,by rw[bO 9 bK 0 3 3 .i64 i oM oM,so,Rc],oK,?_⟩
 ·have R:=B.cf;simp only[cfB,iT,okR,be,decide_eq_true_eq,QM]at R;exact R.2.2.2.2.2.2.2.1.2.2.2 q I
 intro h' U o' F hk ne;have Z:∀z∈[bK],lo<=z/\z<k1:=fun z m=>by simp at m;omega
 have kh:=CKs.keep w ck F fun z m=>.inl (Z z m).2;refine⟨[bK],fun z m=>.inr (Z z m).1,F,.inr ⟨rfl,{c with Ks:=c.Ks.set i U},vE,Xs,F.own _ _ oO B.o,⟨?_,?_,?_,(ge.fr F fun z m=>.inl (by have:=Z z m;omega)).sl,CEs.keep w ce B.a.eh F fun z m=>.inl (by have:=Z z m;omega),by have:=B.a.n;omega⟩,fun e=>?_⟩⟩
 ·show Recs Knd.cells 9 h' c.vK (c.Ks.set i U);rw[ev];exact jU aW o' oO
 ·intro x m;rcases Ra m with m|rfl
  ·exact kh x m
  ·exact hk (kh q I)
 ·show(c.Ks.set i U).length<=_;rw[Rd];omega
 ·exact zy (x:=U) (by rw[Td oM]) J ne e.k
end
theorem K9:CG 6:=by
 intro h lo hi bc b c vE Xs w B J I;obtain⟨Z,q,l3,hq,ok,op,LD,IX,oK,T⟩:=B.kk w (i:=2) oM;have ix:aP (.ixs 9) [.slice Z 0 3 3,ZZ 2]=some (.ptr Z 18):=IX;have R:ai h Z 24=some (ZZ q.base):=LD 6 oM;simp only[okK,okB,okP,be,decide_eq_true_eq]at ok op;have D:=Sn (q.base+1) (by have:=ok;omega) (by have:=ok;omega);refine aa ?_;simp[evs,eff,B.l7,B.a.ev.len,gw J I 6,l3,ix,R,D];refine ac (c':=(c.Ks.set 2 {q with base:=q.base+1}).flatMap Knd.cells) w oK rfl rfl (aS aW (y:={q with base:=q.base+1}) (o:=6) (vs:=[ZZ (q.base+1)]) c.Ks 2 q hq rfl) ?_;rintro h' U F n';simp[evs];exact T U F id fun z=>by have:=congrArg Knd.base z;exact ybu
theorem K8:CG 7:=by
 intro h lo hi bc b c vE Xs w B J I;obtain⟨Z,q,l3,hq,ok,op,LD,IX,oK,T⟩:=B.kk w (i:=1) oM;have ix:aP (.ixs 9) [.slice Z 0 3 3,ZZ 1]=some (.ptr Z 9):=IX;have R:ai h Z 17=some (ZZ q.pool):=LD 8 oM;simp only[okK,okB,okP,be,decide_eq_true_eq]at ok op;have D:=Sn (q.pool+1) (by have:=ok;omega) (by have:=ok;omega);refine aa ?_;simp[evs,eff,B.l7,B.a.ev.len,gw J I 7,l3,ix,R,D];refine ac (c':=(c.Ks.set 1 {q with pool:=q.pool+1}).flatMap Knd.cells) w oK rfl rfl (aS aW (y:={q with pool:=q.pool+1}) (o:=8) (vs:=[ZZ (q.pool+1)]) c.Ks 1 q hq rfl) ?_;rintro h' U F n';simp[evs];exact T U F id fun z=>by have:=congrArg Knd.pool z;exact ybu
theorem K7:CG 8:=by
 intro h lo hi bc b c vE Xs w B I D;obtain⟨Z,q,R,hq,ok,op,LD,IX,oK,T⟩:=B.kk w (i:=0) oM;have ix:aP (.ixs 9) [.slice Z 0 3 3,ZZ 0]=some (.ptr Z 0):=IX;have U:ai h Z 7=some (.bool q.sticky):=LD 7 oM;refine aa ?_;simp[evs,eff,B.l7,B.a.ev.len,gw I D 8,R,ix,U];refine ac (c':=(c.Ks.set 0 {q with sticky:=!q.sticky}).flatMap Knd.cells) w oK rfl rfl (aS aW (y:={q with sticky:=!q.sticky}) (o:=7) (vs:=[.bool (!q.sticky)]) c.Ks 0 q hq rfl) ?_;rintro h' J F n';simp[evs,DF,U,R];exact T J F id fun z=>by have:=congrArg Knd.sticky z;exact ybu
theorem K6:CG 9:=by
 intro h lo hi bc b c vE Xs w B I D;obtain⟨Z,q,R,hq,ok,op,LD,IX,oK,T⟩:=B.kk w (i:=0) oM;have ix:aP (.ixs 9) [.slice Z 0 3 3,ZZ 0]=some (.ptr Z 0):=IX;have U:ai h Z 1=some (.str q.tg):=LD 1 oM;have fw:=aI q.tg [120] (by have:=(HD ok).1;simp;omega);refine aa ?_;simp[evs,eff,B.l7,B.a.ev.len,gw I D 9,R,ix,U,fw];refine ac (c':=(c.Ks.set 0 {q with tg:=q.tg++[120]}).flatMap Knd.cells) w oK rfl rfl (aS aW (y:={q with tg:=q.tg++[120]}) (o:=1) (vs:=[.str (q.tg++[120])]) c.Ks 0 q hq rfl) ?_;rintro h' J F n';simp[evs,DF,U,R];exact T J F id fun z=>by have:=congrArg Knd.tg z;exact ybu
open Go.Ev.St
section
variable {h : Heap} {lo hi bc b : Nat} {c : Cfg} {vE : V} {Xs : List Evt}
theorem IY:CG 10:=by
 intro h lo hi bc b c vE Xs w B hb hr;have r:=gw hb hr 10;have l7:=B.l7;obtain⟨k1,k2,k3,q1,q2,q3,q4,gk,ck,ge,ce⟩:=B.cp;have ad:=B.a.k3;obtain⟨gl,⟨z,_⟩|⟨bK,b1,b2,ev,oK⟩⟩:=gk
 ·omega
 rw[ad]at ev;obtain⟨x0,x1,U,eK⟩:∃x0 x1 U,c.Ks=[x0,x1,U]:=by
  match hK:c.Ks,ad with
  |[x0,x1,U],_=>exact⟨x0,x1,U,rfl⟩
 have xm:U∈c.Ks:=by rw[eK];simp
 rw[eK]at ck;obtain⟨m0,_,c0,m1,_,c1,m2,_,c2,l2⟩:=ck;have l2:m2<=k2:=l2;have z0:=c0.le;have z1:=c1.le;have z2:=c2.le;obtain⟨p1,p2,h1,h2,h3,cs,cp,nn,st⟩:=c2;have bl:=B.l;have l3:ai h bc 3=some (.slice bK 0 3 3):=by rw[<-ev];exact B.o.ld1 3
 have ix:aP (.ixs 9) [.slice bK 0 3 3,ZZ 2]=some (.ptr bK 18):=by rw[bO 9 bK 0 3 3 .i64 2 oM oM];rfl
 have lx:ai h bK 23=some U.vp:=by rw[oK.ld1,eK];rfl
 have aj:=cp.sl.len;by_cases cz:U.sub.len=0
 ·refine aa ?_;simp only[evs,seval,l7,B.a.ev.len,r,l3,ix,lx,cp.sl.len,eq_true (oM:(U.sub.len:Int)=0)];exact yag
 obtain⟨cl,⟨z,_⟩|⟨bP,b3,b4,ah,oP⟩⟩:=cp
 ·omega
 obtain⟨s',R⟩:∃s,U.sub=s:=⟨_,rfl⟩;cases s' with
 |nil=>rw[R]at cz;exact absurd rfl cz
 |cons kk tg ky sl tx va vc sub nx=>
  have ao:=(HD (I1 B.cf U xm)).2 R;have fw:=aI tx [120] oO;have lt:ai h bP 4=some (.str tx):=by rw[oP.ld1,R];rfl
  have ix6:aP (.ixs 6) [U.vp,ZZ 0]=some (.ptr bP 0):=by rw[ah,bO 6 bP 0 _ _ .i64 0 oM oM];rfl
  obtain⟨J,I⟩:∃s:PT,s=.cons kk tg ky sl (tx++[120]) va vc sub nx:=⟨_,rfl⟩;obtain⟨D,ab⟩:∃q:Knd,q=⟨U.k,U.tg,U.ky,U.sl,U.tx,U.vs,U.vp,J,U.base,U.sticky,U.pool⟩:=⟨_,rfl⟩;have ln:J.len=U.sub.len:=by rw[I,R];rfl
  refine aa ?_;simp only[evs,seval,eff,l7,B.a.ev.len,r,l3,ix,lx,aj,eq_false (oM:¬(U.sub.len:Int)=0),ix6,lt,fw];refine ac (c':=J.cells) w oP rfl rfl (by rw[R,I];rfl) ?_;rintro h' o' F n';simp only[evs,seval,DF,l3,lx,lt];have Z:∀z∈[bP],p1<=z/\z<p2:=fun z m=>by simp at m;omega
  obtain⟨d,hd⟩:∃d:Cfg,d=⟨c.view,c.over,c.least,c.vK,[x0,x1,D],c.cap,c.arena,c.flaw⟩:=⟨_,rfl⟩;have wF:=F.wf;have aA:=(c0.fr w F fun z m=>.inr (by have:=Z z m;omega)).kh wF|>.at wF;have ak:=(c1.fr w F fun z m=>.inr (by have:=Z z m;omega)).kh wF|>.at wF;have ax:KndH h' D:=by
   have q:CKn m1 m2 h' D:=by
    rw[ab];refine⟨p1,p2,h1,h2,h3,cs.fr F fun z m=>.inr (Z z m).1,⟨by rw[ln,<-cl,R,I];rfl,.inr ⟨bP,b3,b4,?_,o'⟩⟩,⟨nn.1,nn.2.1,by rw[ln];exact nn.2.2⟩,?_⟩
    ·grind
    ·have s1:=st.fr w F fun z m=>.inl (Z z m).2;rw[R]at s1;show StI p2 m2 h' fun h=>PH h J;rw[I];exact s1
   exact(q.kh wF).at wF
  refine⟨[bP],fun z m=>.inr (by have:=Z z m;omega),F,.inr ⟨rfl,d,vE,Xs,?_,⟨?_,?_,?_,(ge.fr F fun z m=>.inl (by have:=Z z m;omega)).sl,CEs.keep w ce B.a.eh F fun z m=>.inl (by have:=Z z m;omega),by have:=B.a.n;omega⟩,fun e=>?_⟩⟩
  ·rw[hd];exact F.own _ _ oO B.o
  ·rw[hd];show Recs Knd.cells 9 h' c.vK [x0,x1,D];rw[ev];refine jU aW ?_ rfl;have:[x0,x1,D].flatMap Knd.cells=c.Ks.flatMap Knd.cells:=by rw[eK,ab];rfl
   rw[this];exact F.own _ _ oO oK
  ·grind
  ·rw[hd];simp
  ·have ek:=e.k;rw[hd,eK]at ek;simp only[QU,QC,TR,and_true,true_and]at ek;have:=congrArg (fun z=>z.sub) ek;rw[ab]at this;simp only[Knd.er,I,R,PT.er,PT.cons.injEq]at this;simp at this
end
open Go.Ev.St
theorem OZ(n:Int)(h:i64 n):aB .i64 (n+1)≠n:=by
 obtain⟨Z,U⟩:=h;have:aB .i64 (n+1)=IntKind.wrap .i64 (n+1):=bq _ _;rw[this];exact yp
theorem Nu(n:Nat)(h:n<18446744073709551616):aB .u64 ((n:Int)+1)=(((n+1)%18446744073709551616:Nat):Int):=by
 have:aB .u64 ((n:Int)+1)=IntKind.wrap .u64 ((n:Int)+1):=bq _ _;rw[this];exact yaw
theorem EvM.to(a:EvM h x)(J:y.vN=x.vN)(Z:y.Ns=x.Ns)(R:y.vT=x.vT)(U:y.Tl=x.Tl):EvM h y:=by
 obtain⟨k,to,key,vN,Ns,vT,Tl⟩:=y;simp only at J Z R U;subst J Z R U;exact⟨a.rn,a.hx,a.n,a.r,a.t⟩
section
variable {h : Heap} {lo hi bc b : Nat} {c : Cfg} {vE : V} {Xs : List Evt}
theorem CpB.ee(B:CpB lo hi bc h c vE Xs)(w:WF h){i:Nat}(ab:i<Xs.length):∃bE x,Xs[i]? =some x/\x∈Xs/\EvtH h x 1000/\(∀j<5,ai h bE (i*5+j)=nth x.cells j)/\aP (.ixs 5) [vE,ZZ (i:Int)]=some (.ptr bE (i*5))/\Own h bE (Xs.flatMap Evt.cells)/\
  ∀{h':Heap}{U:Evt},Own h' bE ((Xs.set i U).flatMap Evt.cells)->Fr [bE] h h'->(EvM h' x->EvM h' U)->¬U.er=x.er->Chg lo bc h c Xs (.bool true) h':=by
 obtain⟨k1,k2,k3,q1,q2,q3,q4,gk,ck,ge,D⟩:=B.cp;have bl:=B.l;have nX:=B.a.n;obtain⟨gl,⟨z,_⟩|⟨bE,b1,b2,ev,J⟩⟩:=ge
 ·omega
 obtain⟨x,hx⟩:∃x,Xs[i]? =some x:=⟨_,Qq oM⟩;have R:=Of hx;refine⟨bE,x,hx,R,B.a.eh x R,fun j hj=>by rw[J.ld1];exact Db aZ hx hj,by rw[ev,bO 5 bE 0 _ _ .i64 _ oM oM,so,Rc],J,?_⟩
 intro h' U I F hk ne;have Z:∀z∈[bE],k2<=z/\z<k3:=fun z m=>by simp at m;omega
 have eh:=CEs.keep w D B.a.eh F fun z m=>.inl (Z z m).2;refine⟨[bE],fun z m=>.inr (by have:=Z z m;omega),F,.inr ⟨rfl,c,vE,Xs.set i U,F.own _ _ oO B.o,⟨(gk.fr F fun z m=>.inr (by have:=Z z m;omega)).sl,CKs.keep w ck F fun z m=>.inr (by have:=Z z m;omega),by have:=B.a.k3;omega,by rw[ev];exact jU aZ I (by rw[Rd]),?_,by rw[Rd];omega⟩,fun e=>zy (x:=U) (by rw[Td oM]) hx ne e.e⟩⟩
 intro y m;rcases Ra m with m|rfl
 ·exact eh y m
 ·exact hk (eh x R)
theorem IW:CG 11:=by
 intro h lo hi bc b c vE Xs w B hb hr;have r:=gw hb hr 11;have l7:=B.l7;have nX:=B.a.n;have elen:=B.a.ev.len;by_cases cz:Xs.length=0
 ·refine aa ?_;simp only[evs,seval,l7,elen,r,eq_true (oM:(Xs.length:Int)=0)];exact⟨[],iS,Fr.refl w,.inl rfl⟩
 obtain⟨bE,x,hx,xm,xh,LD,IX,oE,T⟩:=B.ee w (i:=Xs.length-1) oM;have sb:(Xs.length:Int)-1=((Xs.length-1:Nat):Int):=oM
 have lx:ai h bE ((Xs.length-1) *5+1)=some (.int .i64 x.to):=LD 1 oM;have up:=aS aZ (y:={x with to:=aB .i64 (x.to+1)}) (o:=1) (vs:=[.int .i64 (aB .i64 (x.to+1))]) Xs (Xs.length-1) x hx rfl;refine aa ?_;simp(disch:=omega) only[evs,seval,elen,r,eq_false (oM:¬(Xs.length:Int)=0),l7,fwrap_i64,sb,IX,lx];refine ac w oE rfl rfl up ?_;rintro h' o' F n';simp only[evs,seval];exact T o' F (fun a=>a.to rfl rfl rfl rfl) fun z=>by have:=congrArg Evt.to z;simp[Evt.er]at this;exact OZ x.to xh.to this
theorem IV:CG 12:=by
 intro h lo hi bc b c vE Xs w B hb hr;have r:=gw hb hr 12;have l7:=B.l7;have nX:=B.a.n;have elen:=B.a.ev.len;by_cases cz:Xs.length=0
 ·refine aa ?_;simp only[evs,seval,l7,elen,r,eq_true (oM:(Xs.length:Int)=0)];exact⟨[],iS,Fr.refl w,.inl rfl⟩
 obtain⟨bE,x,hx,xm,xh,LD,IX,oE,T⟩:=B.ee w (i:=Xs.length-1) oM;have sb:(Xs.length:Int)-1=((Xs.length-1:Nat):Int):=oM
 have lx:ai h bE ((Xs.length-1) *5+2)=some (.int .u64 (x.key:Int)):=LD 2 oM;have fw:=Nu x.key xh.key;have up:=aS aZ (y:={x with key:=(x.key+1)%18446744073709551616}) (o:=2) (vs:=[.int .u64 (((x.key+1)%18446744073709551616:Nat):Int)]) Xs (Xs.length-1) x hx rfl;refine aa ?_;simp(disch:=omega) only[evs,seval,elen,r,eq_false (oM:¬(Xs.length:Int)=0),l7,fwrap_i64,sb,IX,lx,fw];refine ac w oE rfl rfl up ?_;rintro h' o' F n';simp only[evs,seval];exact T o' F (fun a=>a.to rfl rfl rfl rfl) fun z=>by have:=congrArg Evt.key z;simp[Evt.er]at this;have:=xh.key;omega
theorem IR:CG 15:=by
 intro h lo hi bc b c vE Xs w B hb hr;have r:=gw hb hr 15;have l7:=B.l7;have nX:=B.a.n;have elen:=B.a.ev.len;by_cases cz:Xs.length=0
 ·refine aa ?_;simp only[evs,seval,l7,elen,r,eq_true (oM:(Xs.length:Int)=0)];exact⟨[],iS,Fr.refl w,.inl rfl⟩
 obtain⟨bE,x,hx,xm,xh,LD,IX,oE,T⟩:=B.ee w (i:=0) oM;have ix:aP (.ixs 5) [vE,.int .i64 0]=some (.ptr bE 0):=IX;have up:=aS aZ (y:={x with k:=99}) (o:=0) (vs:=[.int .u8 99]) Xs (0) x hx rfl;refine aa ?_;simp only[evs,seval,elen,r,eq_false (oM:¬(Xs.length:Int)=0),l7,ix];refine ac w oE rfl rfl up ?_;rintro h' o' F n';simp only[evs,seval];exact T o' F (fun a=>a.to rfl rfl rfl rfl) fun z=>by have:=congrArg Evt.k z;simp[Evt.er]at this;have:=(B.a.eo x xm).k;omega
end
end Go.Ev.Lay
